import Derived.ProofKit
import Derived.OpenShut
import Derived.ChangeOld
import Derived.Below
import Derived.Carry
import Derived.Deep.Slices
import Derived.Test.YtikfojjghnfjkaaProg
import Derived.Test.YtikfojjghnfjkaaPkLawImpressionsC
/-
  From what a call is handed, read as data, to abstract values.
-/
set_option linter.unusedVariables false
set_option linter.unusedSimpArgs false
set_option linter.unnecessarySimpa false
namespace Go.Vc
open Go.RowKit (Below)
open Go.ChangeShapes Go.WideShapes Go.ChangeAt Go.Deep

theorem Grown.below {w w' : World} (h : Grown w w') : Below w.heap.size w w' := ⟨h.out.os, h.out.tape, h.out.output, h.size, h.same⟩

def CellsRd (w : World) (xs : List AV) (cs : List Value) : Prop := cs.length = xs.length ∧ ∀ i (h : i < xs.length), leaf xs[i] ∧ Rd w (Now w) xs[i] (cs.getD i Go.undef)

/-- What reads as data at type t reads as 'f a', for some a. -/
def Dec (P : Program) (t : TypeId) {α : Type} (ok : α → Prop) (f : α → List AV) : Prop :=
  ∀ (H : Type) (enc : TypeId × Value → H) (w : World) (base : Nat) (held : Bool) (fuel : Nat) (cs : List Value) (x : DataW H × List MemPlace),
    DataW.trod enc P w base (fun _ => true) held fuel t cs = some x → ∃ a, ok a ∧ CellsRd w (f a) cs

theorem CellsRd.one {w : World} {x : AV} {v : Value} (hl : leaf x) (h : Rd w (Now w) x v) : CellsRd w [x] [v] := ⟨rfl, fun i hi => by
  have : i = 0 := by simpa using hi
  subst this; exact ⟨hl, h⟩⟩

theorem Dec.int {P : Program} {t : TypeId} {k : IntKind} (ht : P.underlying t = some (.int k)) : Dec P t (fun n : Int => (Lit.int k n).wf = true) (fun n => [.val (.int k n)]) := fun H enc w base held fuel cs x h => by
  obtain ⟨n, rfl, _, hw⟩ := DataW.trod_int ht h
  exact ⟨n, hw, .one trivial (.val _ rfl)⟩
theorem Dec.i64 {P : Program} {t : TypeId} (ht : P.underlying t = some (.int .i64)) : Dec P t I64 (fun n : Int => [.val (.int .i64 n)]) := fun H enc w base held fuel cs x h => by
  obtain ⟨n, rfl, _, hw⟩ := DataW.trod_int ht h
  exact ⟨n, bounds_i64 hw, .one trivial (.val _ rfl)⟩
theorem Dec.u8 {P : Program} {t : TypeId} (ht : P.underlying t = some (.int .u8)) : Dec P t (fun _ => True) (fun n : UInt8 => [.val (.int .u8 n.toNat)]) := fun H enc w base held fuel cs x h => by
  obtain ⟨n, rfl, _, hw⟩ := DataW.trod_int ht h
  have hb := bounds_u8 hw
  refine ⟨UInt8.ofNat n.toNat, trivial, .one trivial ?_⟩
  have : ((UInt8.ofNat n.toNat).toNat : Int) = n := by simp; omega
  rw [this]; exact .val _ rfl
theorem Dec.bool {P : Program} {t : TypeId} (ht : P.underlying t = some .bool) : Dec P t (fun _ => True) (fun b : Bool => [.val (.bool b)]) := fun H enc w base held fuel cs x h => by
  obtain ⟨b, rfl, _⟩ := DataW.trod_bool ht h
  exact ⟨b, trivial, .one trivial (.val _ rfl)⟩
theorem Dec.string {P : Program} {t : TypeId} (ht : P.underlying t = some .string) : Dec P t (fun s : ByteArray => s.size ≤ maxLen) (fun s => [.val (.string s)]) := fun H enc w base held fuel cs x h => by
  obtain ⟨s, rfl, _, hs⟩ := DataW.trod_string ht h
  exact ⟨s, hs, .one trivial (.val _ rfl)⟩

theorem Dec.map {P : Program} {t : TypeId} {α β : Type} {ok : α → Prop} {f : α → List AV} {ok' : β → Prop} {f' : β → List AV} (h : Dec P t ok f) (hm : ∀ a, ok a → ∃ b, ok' b ∧ f' b = f a) : Dec P t ok' f' := fun H enc w base held fuel cs x hx => by
  obtain ⟨a, h1, h2⟩ := h H enc w base held fuel cs x hx
  obtain ⟨b, h3, h4⟩ := hm a h1
  exact ⟨b, h3, by rw [h4]; exact h2⟩

theorem list_of {α : Type} (g : Nat → Option α) : ∀ (len : Nat), (∀ i, i < len → ∃ b, g i = some b) → ∃ xs : List α, xs.length = len ∧ ∀ i (hi : i < xs.length), g i = some xs[i]
  | 0, _ => ⟨[], rfl, fun i hi => absurd hi (Nat.not_lt_zero _)⟩
  | k + 1, hg => by
    obtain ⟨xs, h1, h2⟩ := list_of g k fun i hi => hg i (by omega)
    obtain ⟨b, hb⟩ := hg k (by omega)
    refine ⟨xs ++ [b], by simp [h1], fun i hi => ?_⟩
    by_cases hik : i < xs.length
    · rw [List.getElem_append_left hik]; exact h2 i hik
    · have : i = k := by simp at hi; omega
      subst this
      rw [List.getElem_append_right (by omega)]; simp [h1, hb]

theorem add_block (a : Addr) (k : Nat) : (a.add k).block = a.block := by unfold Addr.add; split <;> rfl
theorem add_off (a : Addr) (k : Nat) : (a.add k).off = a.off + k := by
  unfold Addr.add; split
  · rename_i h; rw [h]; rfl
  · rfl

theorem cell_out {w : World} {a : Addr} {v : Value} (h : w.cell? a = some v) : ∃ cs e fr, w.heap[a.block]? = some (.cells cs e fr) ∧ cs[a.off]? = some v := by
  unfold World.cell? at h
  split at h
  · split at h
    · cases h
    · exact ⟨_, _, _, ‹_›, h⟩
  · cases h

/-- an element of so many cells -/
def elOf (ag : Bool) (xs : List AV) : AV := if ag then .agg xs else xs.getD 0 .undef

theorem Dec.slice {P : Program} {t e : TypeId} {α : Type} {ok : α → Prop} {f : α → List AV} (ag : Bool) (n : Nat) (ht : P.underlying t = some (.slice e)) (hn : P.cellsOf e = n) (h0 : 0 < n) (hag : ag = false → n = 1)
    (hlen : ∀ a, (f a).length = n) (hd : Dec P e ok f) : Dec P t (fun xs : List α => xs.length ≤ maxLen ∧ ∀ a ∈ xs, ok a) (fun xs => [.arr ⟨n, ag⟩ (xs.map fun a => elOf ag (f a))]) := fun H enc w base held fuel cs x h => by
  rcases open_slice ht h with ⟨rfl, _⟩ | ⟨a, len, cap, m, n', D, Pl, rfl, hb, hl, hm, hmm, _, hel⟩
  · exact ⟨[], ⟨Nat.zero_le _, by simp⟩, .one trivial (.nil _ _)⟩
  · simp only [if_true] at hmm
    rw [hn, hmm] at hel
    clear hmm
    by_cases hc : cap = 0
    · subst hc
      have : len = 0 := by omega
      subst this
      exact ⟨[], ⟨Nat.zero_le _, by simp⟩, .one trivial (.nil _ _)⟩
    · -- the block
      have cellAt : ∀ i, i < cap → ∀ j, j < n → ∃ v, w.cell? (a.add (i * n + j)) = some v := by
        intro i hi j hj
        obtain ⟨cs', h1, _⟩ := hel i hi
        obtain ⟨_, h2, h3⟩ := World.cells?_some h1
        have := h3 j hj
        rw [add_add] at this
        exact ⟨cs'[j]'(by omega), by rw [this]; exact List.getElem?_eq_getElem (by omega)⟩
      obtain ⟨v00, h00⟩ := cellAt 0 (by omega) 0 h0
      have hsp : a.spot = none := by simpa [Addr.add] using World.cell?_spot h00
      obtain ⟨bcs, be, bfr, hheap, hoff0⟩ := cell_out h00
      have hheap : w.heap[a.block]? = some (.cells bcs be bfr) := by simpa [add_block] using hheap
      have hoff0 : bcs[a.off]? = some v00 := by simpa [add_off] using hoff0
      have cells : ∀ i, i < cap → ∀ j, j < n → ∀ v, w.cell? (a.add (i * n + j)) = some v → bcs[a.off + (i * n + j)]? = some v := by
        intro i hi j hj v hv
        obtain ⟨cs2, e2, fr2, g1, g2⟩ := cell_out hv
        have g1 : w.heap[a.block]? = some (.cells cs2 e2 fr2) := by simpa [add_block] using g1
        rw [hheap] at g1; cases g1
        simpa [add_off] using g2
      have size : ∀ i, i < cap → a.off + (i + 1) * n ≤ bcs.size := by
        intro i hi
        obtain ⟨v, hv⟩ := cellAt i hi (n - 1) (by omega)
        have := cells i hi (n - 1) (by omega) v hv
        have := (Array.getElem?_eq_some_iff.1 this).1
        rw [Nat.add_mul]; omega
      obtain ⟨g, hg⟩ : ∃ g : Nat → Option α, ∀ i, i < len → ∃ b, g i = some b ∧ ok b ∧ ∃ cs', w.cells? base (a.add (i * n)) n = some cs' ∧ CellsRd w (f b) cs' := by
        refine choose_lt (p := fun i (o : Option α) => ∃ b, o = some b ∧ ok b ∧ ∃ cs', w.cells? base (a.add (i * n)) n = some cs' ∧ CellsRd w (f b) cs') fun i hi => ?_
        obtain ⟨cs', h1, h2⟩ := hel i (by omega)
        obtain ⟨b, h3, h4⟩ := hd H enc w base held n' cs' _ h2
        exact ⟨some b, b, rfl, h3, cs', h1, h4⟩
      have hxs : ∃ xs : List α, xs.length = len ∧ ∀ i (hi : i < xs.length), g i = some xs[i] := by
        exact list_of g len fun i hi => by obtain ⟨b, hb, _⟩ := hg i hi; exact ⟨b, hb⟩
      obtain ⟨xs, hxl, hxs⟩ := hxs
      have hel2 : ∀ i (hi : i < xs.length), ok xs[i] ∧ ∃ cs', w.cells? base (a.add (i * n)) n = some cs' ∧ CellsRd w (f xs[i]) cs' := by
        intro i hi
        obtain ⟨b, h1, h2, h3⟩ := hg i (by omega)
        rw [hxs i hi] at h1; cases h1
        exact ⟨h2, h3⟩
      refine ⟨xs, ⟨by omega, fun b hb => ?_⟩, .one trivial ?_⟩
      · obtain ⟨i, hi, rfl⟩ := List.getElem_of_mem hb
        exact (hel2 i hi).1
      · have ea : a = ⟨a.block, a.off, none⟩ := by cases a; simp at hsp; subst hsp; rfl
        have hlen2 : (xs.map fun b => elOf ag (f b)).length = len := by simp [hxl]
        rw [ea, ← hlen2]
        refine .arr ⟨n, ag⟩ _ a.block a.off cap bcs be bfr (Array.getElem?_eq_some_iff.1 hheap).1 hheap (by omega) ?_ ?_ ?_
        · rw [hlen2]
          show a.off + len * n ≤ bcs.size
          by_cases h0l : len = 0
          · subst h0l
            have := size 0 (by omega)
            omega
          · have := size (len - 1) (by omega)
            rwa [show len - 1 + 1 = len by omega] at this
        · intro i hi
          rw [List.getElem_map]
          cases ag with
          | true => exact ⟨rfl, hlen _⟩
          | false =>
            have hi' : i < xs.length := by simpa using hi
            obtain ⟨_, cs', _, h2⟩ := hel2 i hi'
            have h1 := hlen xs[i]
            have := (h2.2 0 (by omega)).1
            have e1 : elOf false (f xs[i]) = (f xs[i])[0]'(by omega) := by simp [elOf, List.getD_eq_getElem?_getD, List.getElem?_eq_getElem (show 0 < (f xs[i]).length by omega)]
            rw [e1]
            have hn1 := hag rfl
            unfold fits
            split <;> first | (rename_i hh; rw [hh] at this; exact this.elim) | exact ⟨rfl, hn1⟩
        · intro i hi
          have hi' : i < xs.length := by simpa using hi
          rw [List.getElem_map]
          obtain ⟨_, cs', h1, h2⟩ := hel2 i hi'
          obtain ⟨_, h3, h4⟩ := World.cells?_some h1
          have hcell : ∀ j, j < n → bcs[a.off + (i * n + j)]? = cs'[j]? := by
            intro j hj
            have := h4 j hj
            rw [add_add] at this
            rw [List.getElem?_eq_getElem (by omega)] at this ⊢
            exact cells i (by omega) j hj _ this
          have hsz := size i (by omega)
          cases ag with
          | true =>
            have e2 : elemV bcs.toList (a.off + i * n) ⟨n, true⟩ = .agg cs'.toArray := by
              simp only [elemV, if_true]
              congr 2
              apply List.ext_getElem?
              intro j
              by_cases hj : j < n
              · rw [List.getElem?_take, if_pos hj, List.getElem?_drop, ← hcell j hj]; simp [Nat.add_assoc]
              · rw [List.getElem?_take, if_neg hj, List.getElem?_eq_none (by omega)]
            show Rd w (Now w) (elOf true (f xs[i])) (elemV bcs.toList (a.off + i * n) ⟨n, true⟩)
            rw [e2]
            exact .agg _ _ (by simpa using h2.1) (fun j hj => (h2.2 j hj).1) (fun j hj => (h2.2 j hj).2)
          | false =>
            have hn1 := hag rfl
            subst hn1
            have hl1 := hlen xs[i]
            have e2 : elemV bcs.toList (a.off + i * 1) ⟨1, false⟩ = cs'.getD 0 Go.undef := by
              simp only [elemV, Bool.false_eq_true, if_false, List.getD_eq_getElem?_getD]
              have := hcell 0 (by omega)
              rw [Nat.add_zero] at this
              rw [← this]; simp
            show Rd w (Now w) (elOf false (f xs[i])) (elemV bcs.toList (a.off + i * 1) ⟨1, false⟩)
            rw [e2]
            have e1 : elOf false (f xs[i]) = (f xs[i])[0]'(by omega) := by simp [elOf, List.getD_eq_getElem?_getD, List.getElem?_eq_getElem (show 0 < (f xs[i]).length by omega)]
            rw [e1]
            exact (h2.2 0 (by omega)).2

/-- The fields of a struct, one behind the other. -/
inductive Flds (P : Program) : List Field → Nat → {α : Type} → (α → Prop) → (α → List AV) → Prop
  | nil (o : Nat) : Flds P [] o (fun _ : Unit => True) (fun _ => [])
  | cons {α β : Type} {f : Field} {r : List Field} {o n : Nat} {ok : α → Prop} {g : α → List AV} {ok' : β → Prop} {g' : β → List AV} (ho : f.offset = o) (hn : P.cellsOf f.type = n) (hl : ∀ a, (g a).length = n) (hd : Dec P f.type ok g) (hr : Flds P r (o + n) ok' g') :
      Flds P (f :: r) o (fun p : α × β => ok p.1 ∧ ok' p.2) (fun p => g p.1 ++ g' p.2)

theorem Flds.out {P : Program} {fs : List Field} {o : Nat} {α : Type} {ok : α → Prop} {g : α → List AV} (h : Flds P fs o ok g) {H : Type} {enc : TypeId × Value → H} {w : World} {base : Nat} {held : Bool} {fuel : Nat} {cs : List Value}
    (hx : ∀ f, f ∈ fs → ∃ x, DataW.trod enc P w base (fun _ => true) held fuel f.type ((cs.drop f.offset).take (P.cellsOf f.type)) = some x) : ∃ a, ok a ∧ CellsRd w (g a) ((cs.drop o).take (g a).length) := by
  induction h with
  | nil o => exact ⟨(), trivial, by simp, fun i hi => absurd hi (Nat.not_lt_zero _)⟩
  | @cons α β f r o n ok g ok' g' ho hn hl hd hr ih =>
    obtain ⟨x, h1⟩ := hx f (List.mem_cons_self ..)
    obtain ⟨a, h2, h3⟩ := hd H enc w base held fuel _ x h1
    obtain ⟨b, h4, h5⟩ := ih fun f hf => hx f (List.mem_cons_of_mem _ hf)
    rw [hn, ho] at h3
    have e : (cs.drop o).take (g a ++ g' b).length = (cs.drop o).take n ++ (cs.drop (o + n)).take (g' b).length := by
      rw [List.length_append, hl, List.take_add, List.drop_drop]
    refine ⟨(a, b), ⟨h2, h4⟩, ?_⟩
    show CellsRd w (g a ++ g' b) ((cs.drop o).take (g a ++ g' b).length)
    rw [e]
    have hla := h3.1
    refine ⟨by rw [List.length_append, List.length_append, hla, h5.1], fun i hi => ?_⟩
    by_cases hia : i < (g a).length
    · rw [List.getElem_append_left hia]
      have := h3.2 i hia
      refine ⟨this.1, ?_⟩
      rw [List.getD_eq_getElem?_getD, List.getElem?_append_left (by omega), ← List.getD_eq_getElem?_getD]
      exact this.2
    · have hi2 : i - (g a).length < (g' b).length := by simp at hi; omega
      rw [List.getElem_append_right (by omega)]
      have := h5.2 _ hi2
      refine ⟨this.1, ?_⟩
      rw [List.getD_eq_getElem?_getD, List.getElem?_append_right (by omega), hla, ← List.getD_eq_getElem?_getD]
      exact this.2

theorem Dec.struct {P : Program} {t : TypeId} {fs : List Field} {α : Type} {ok : α → Prop} {g : α → List AV} {n : Nat} (ht : P.underlying t = some (.struct ⟨fs⟩)) (hn : P.cellsOf t = n) (hf : Flds P fs 0 ok g) (hl : ∀ a, (g a).length = n) : Dec P t ok g := fun H enc w base held fuel cs x h => by
  obtain ⟨xs, n', rfl, _, h1, h2, h3⟩ := DataW.trod_struct ht h
  obtain ⟨a, h4, h5⟩ := hf.out (H := H) (enc := enc) (w := w) (base := base) (held := held) (fuel := n') (cs := cs) fun f hf => by
    obtain ⟨i, hi, rfl⟩ := List.getElem_of_mem hf
    have := h3 i fs[i] (by simp)
    have hxl : i < xs.length := by rw [h2]; simpa using hi
    rw [List.getElem?_eq_getElem hxl] at this
    exact ⟨_, this⟩
  refine ⟨a, h4, ?_⟩
  rw [List.drop_zero, List.take_of_length_le (by rw [h1, hn, hl]; exact Nat.le_refl _)] at h5
  exact h5

/-- An argument that reads as data. -/
theorem Dec.arg {P : Program} {t : TypeId} {α : Type} {ok : α → Prop} {f : α → List AV} (h : Dec P t ok f) (ag : Bool) (hf : ∀ a, if ag then True else (f a).length = 1) {H : Type} {enc : TypeId × Value → H} {w : World} {base : Nat} {held : Bool} {v : Value} {d : DataW H} {ps : List MemPlace}
    (ht : DataW.Trod enc P w base (fun _ => true) held t v d ps) (hv : if ag then ∃ cs, v = .agg cs else v.cells = #[v]) : ∃ a, ok a ∧ Rd w (Now w) (elOf ag (f a)) v := by
  obtain ⟨fuel, hx⟩ := ht
  obtain ⟨a, h1, h2, h3⟩ := h H enc w base held fuel _ _ hx
  refine ⟨a, h1, ?_⟩
  cases ag with
  | true =>
    obtain ⟨cs, rfl⟩ := hv
    have e : (Value.agg cs).cells = cs := rfl
    rw [e] at h2 h3
    exact .agg _ _ (by simpa using h2) (fun i hi => (h3 i hi).1) (fun i hi => (h3 i hi).2)
  | false =>
    have hl : (f a).length = 1 := by simpa using hf a
    have hv : v.cells = #[v] := hv
    rw [hv] at h3
    have := (h3 0 (by omega)).2
    have e1 : elOf false (f a) = (f a)[0]'(by omega) := by simp [elOf, List.getD_eq_getElem?_getD, List.getElem?_eq_getElem (show 0 < (f a).length by omega)]
    rw [e1]; exact this

/-- A law's contract, as the row's step wants it. -/
theorem Fn.law {P : Program} {f : FuncId} {args : List AV} {b : Bool} (h : Fn P f args true (· = .val (.bool b))) (W : World) (hkon : Kon W (Now W)) (vs : Array Value) (hs : vs.size = args.length)
    (hr : ∀ i (h : i < args.length), Rd W (Now W) args[i] (vs.toList.getD i Go.undef)) : Calls P f vs W fun e W' => e = .returned (.bool b) ∧ Below W.heap.size W W' := by
  refine (h.2 W (Now W) vs (fun _ hb => hb) hkon hs hr).mono fun e W' ⟨r, v, he, hx, hg, hres⟩ => ?_
  subst hx
  obtain ⟨fs, hown, _⟩ := hres
  have hv : v = .bool b := by
    cases hown with
    | rd _ _ h => cases h with | val _ _ => rfl
  subst hv
  exact ⟨he, hg.below⟩
end Go.Vc

/-
  How plain data are written as abstract values; small facts on lists.
-/
set_option linter.unusedVariables false
set_option linter.unusedSimpArgs false
set_option linter.unnecessarySimpa false
namespace Go.Vc
abbrev eI (n : Int) : AV := .val (.int .i64 n)
abbrev eB (b : Bool) : AV := .val (.bool b)
abbrev eIs (xs : List Int) : AV := .arr ⟨1, false⟩ (xs.map eI)
theorem all_take {α : Type} (p : α → Bool) (xs : List α) (i : Nat) (h : i < xs.length) : (xs.take (i + 1)).all p = ((xs.take i).all p && p xs[i]) := by
  rw [List.take_succ_eq_append_getElem h, List.all_append]; simp
theorem all_no {α : Type} {p : α → Bool} {xs : List α} {i : Nat} (h : i < xs.length) (hp : p xs[i] = false) : xs.all p = false := by
  rw [List.all_eq_false]; exact ⟨xs[i], List.getElem_mem h, by simp [hp]⟩
/-- a row of which the first i cells are filled -/
def fill {α β : Type} (f : α → β) (z : β) (xs : List α) (i : Nat) : List β := (xs.take i).map f ++ List.replicate (xs.length - i) z
theorem fill_zero {α β : Type} (f : α → β) (z : β) (xs : List α) : fill f z xs 0 = List.replicate xs.length z := by simp [fill]
theorem fill_all {α β : Type} (f : α → β) (z : β) (xs : List α) : fill f z xs xs.length = xs.map f := by simp [fill]
theorem fill_len {α β : Type} (f : α → β) (z : β) (xs : List α) (i : Nat) (h : i ≤ xs.length) : (fill f z xs i).length = xs.length := by simp [fill]; omega
theorem fill_get {α β : Type} (f : α → β) (z : β) (xs : List α) (i : Nat) (h : i < xs.length) : (fill f z xs i)[i]? = some z := by
  have hl : ((xs.take i).map f).length = i := by simp; omega
  rw [fill, List.getElem?_append_right (by omega), hl, Nat.sub_self, List.getElem?_replicate, if_pos (by omega)]
theorem fill_set {α β : Type} (f : α → β) (z : β) (xs : List α) (i : Nat) (h : i < xs.length) : (fill f z xs i).set i (f xs[i]) = fill f z xs (i + 1) := by
  have hl : ((xs.take i).map f).length = i := by simp; omega
  rw [fill, fill, List.take_succ_eq_append_getElem h, List.map_append, List.set_append_right _ _ (by omega), hl, Nat.sub_self, show xs.length - i = (xs.length - (i + 1)) + 1 by omega, List.replicate_succ]
  simp
theorem take_map_len {α β : Type} (f : α → β) (xs : List α) : (xs.map f).take xs.length = xs.map f := by rw [← List.map_take, List.take_length]
attribute [go_sem] take_map_len
theorem lt_len {i n : Nat} (h : i < n) : decide ((i : Int) < (n : Int)) = true := decide_eq_true (by omega)
theorem nlt_len (n : Nat) : decide ((n : Int) < (n : Int)) = false := decide_eq_false (by omega)
theorem get_some {α : Type} {xs : List α} {i : Nat} (h : i < xs.length) : xs[i]? = some xs[i] := List.getElem?_eq_getElem h
/-- a row of which the first i cells hold f 0, f 1, .. -/
def mk1 {β : Type} (f : Nat → β) (zs : List β) (i : Nat) : List β := (List.range i).map f ++ zs.drop i
theorem mk1_zero {β : Type} (f : Nat → β) (zs : List β) : mk1 f zs 0 = zs := by simp [mk1]
theorem mk1_all {β : Type} (f : Nat → β) (zs : List β) (n : Nat) (h : zs.length ≤ n) : mk1 f zs n = (List.range n).map f := by simp [mk1, List.drop_eq_nil_of_le h]
theorem mk1_len {β : Type} (f : Nat → β) (zs : List β) (i : Nat) (h : i ≤ zs.length) : (mk1 f zs i).length = zs.length := by simp [mk1]; omega
theorem mk1_get {β : Type} (f : Nat → β) (zs : List β) (i : Nat) (h : i < zs.length) : (mk1 f zs i)[i]? = some zs[i] := by
  rw [mk1, List.getElem?_append_right (by simp)]; simp [h]
theorem mk1_set {β : Type} (f : Nat → β) (zs : List β) (i : Nat) (h : i < zs.length) : (mk1 f zs i).set i (f i) = mk1 f zs (i + 1) := by
  rw [mk1, mk1, List.set_append_right _ _ (by simp), List.range_succ, List.map_append]
  simp only [List.length_map, List.length_range, Nat.sub_self, List.map_cons, List.map_nil, List.append_assoc]
  rw [List.drop_eq_getElem_cons h]; rfl
theorem mk1_set2 {β : Type} (f : Nat → β) (zs : List β) (i : Nat) (x : β) (h : i < zs.length) : ((mk1 f zs i).set i x)[i]? = some x := by
  rw [List.getElem?_set]; simp [mk1_len f zs i (by omega), h]
theorem isFlatL_map {α : Type} {f : α → AV} (xs : List α) (h : ∀ x, isFlat (f x) = true) : isFlatL (xs.map f) = true := by
  induction xs with
  | nil => rfl
  | cons x r ih => rw [List.map_cons, isFlatL_cons, h, ih]; rfl
theorem isFlatL_append (xs ys : List AV) : isFlatL (xs ++ ys) = (isFlatL xs && isFlatL ys) := by
  induction xs with
  | nil => simp [isFlatL]
  | cons x r ih => rw [List.cons_append, isFlatL_cons, isFlatL_cons, ih, Bool.and_assoc]
theorem isFlatL_take (xs : List AV) (n : Nat) (h : isFlatL xs = true) : isFlatL (xs.take n) = true := by
  induction xs generalizing n with
  | nil => simp [isFlatL]
  | cons x r ih =>
    cases n with
    | zero => rfl
    | succ n =>
      simp only [isFlatL_cons, Bool.and_eq_true] at h
      rw [List.take_succ_cons, isFlatL_cons, h.1, ih n h.2]; rfl
theorem isFlatL_rep (n : Nat) (z : AV) (h : isFlat z = true) : isFlatL (List.replicate n z) = true := by
  induction n with
  | zero => rfl
  | succ n ih => rw [List.replicate_succ, isFlatL_cons, h, ih]; rfl
theorem take_map_snoc {α β : Type} (f : α → β) {xs : List α} {i : Nat} (h : i < xs.length) : (xs.map f).take i ++ [f xs[i]] = (xs.map f).take (i + 1) := by
  rw [List.take_succ_eq_append_getElem (by simpa using h), List.getElem_map]
theorem take_snoc {β : Type} {xs : List β} {i : Nat} (h : i < xs.length) : xs.take i ++ [xs[i]] = xs.take (i + 1) := by
  rw [List.take_succ_eq_append_getElem h]
theorem min_lt {i n : Nat} (h : i < n) : min i n = i := by omega
theorem map_take_len {α β : Type} (f : α → β) (xs : List α) : (xs.map f).take xs.length = xs.map f := take_map_len f xs
theorem rep0 {α : Type} (z : α) : List.replicate 0 z = [] := rfl
theorem rep1 {α : Type} (z : α) : List.replicate 1 z = [z] := rfl
theorem rep2 {α : Type} (z : α) : List.replicate 2 z = [z, z] := rfl
theorem rep3 {α : Type} (z : α) : List.replicate 3 z = [z, z, z] := rfl
theorem rep4 {α : Type} (z : α) : List.replicate 4 z = [z, z, z, z] := rfl
theorem rep5 {α : Type} (z : α) : List.replicate 5 z = [z, z, z, z, z] := rfl
theorem rep6 {α : Type} (z : α) : List.replicate 6 z = [z, z, z, z, z, z] := rfl
theorem rep7 {α : Type} (z : α) : List.replicate 7 z = [z, z, z, z, z, z, z] := rfl
theorem rep8 {α : Type} (z : α) : List.replicate 8 z = [z, z, z, z, z, z, z, z] := rfl
theorem rep9 {α : Type} (z : α) : List.replicate 9 z = [z, z, z, z, z, z, z, z, z] := rfl
theorem rep10 {α : Type} (z : α) : List.replicate 10 z = [z, z, z, z, z, z, z, z, z, z] := rfl
theorem rep11 {α : Type} (z : α) : List.replicate 11 z = [z, z, z, z, z, z, z, z, z, z, z] := rfl
theorem rep12 {α : Type} (z : α) : List.replicate 12 z = [z, z, z, z, z, z, z, z, z, z, z, z] := rfl
attribute [go_sem] isFlatL_map isFlatL_append isFlatL_take isFlatL_rep List.take_take Nat.min_self List.map_take List.append_nil List.length_append List.length_take rep0 rep1 rep2 rep3 rep4 rep5 rep6 rep7 rep8 rep9 rep10 rep11 rep12
theorem ioL_eq : ioL = 1000000000 := rfl
attribute [go_sem] ne_eq not_false_eq_true ioL_eq decide_true decide_false Bool.not_true Bool.not_false bne_self_eq_false
theorem take_set_len {α β : Type} (f : α → β) (xs : List α) (i : Nat) (y : β) : ((xs.map f).set i y).take xs.length = (xs.map f).set i y := List.take_of_length_le (by simp)
attribute [go_sem] take_set_len List.length_set
theorem eq_no {α : Type} [DecidableEq α] {xs ys : List α} {i : Nat} (hi : i < xs.length) (hy : i < ys.length) (h : xs[i] ≠ ys[i]) : decide (xs = ys) = false :=
  decide_eq_false fun e => h (by subst e; rfl)
theorem eq_yes {α : Type} {xs ys : List α} {i : Nat} (hi : i < xs.length) (hy : i < ys.length) (hI : xs.take i = ys.take i) (h : xs[i] = ys[i]) : xs.take (i + 1) = ys.take (i + 1) := by
  rw [List.take_succ_eq_append_getElem hi, List.take_succ_eq_append_getElem hy, hI, h]
end Go.Vc

/-
  What the program's types are, for the layer Vc.
-/
set_option linter.unusedVariables false
set_option linter.unusedSimpArgs false
set_option linter.unnecessarySimpa false
namespace Go.Vc
open Go.Proofs

theorem ti0 : tiOf Try.prog 0 = some ⟨false, 1, 0, .undef, [], 0, .other⟩ := by kernel_rfl
theorem ti1 : tiOf Try.prog 1 = some ⟨false, 1, 8, .val .nilFunc, [], 0, .other⟩ := by kernel_rfl
theorem ti2 : tiOf Try.prog 2 = some ⟨false, 1, 8, .val (.int .i64 0), [], 0, .int .i64⟩ := by kernel_rfl
theorem ti3 : tiOf Try.prog 3 = some ⟨false, 1, 8, .val (.int .i64 0), [], 0, .int .i64⟩ := by kernel_rfl
theorem ti4 : tiOf Try.prog 4 = some ⟨false, 1, 1, .val (.bool false), [], 0, .bool⟩ := by kernel_rfl
theorem ti5 : tiOf Try.prog 5 = some ⟨false, 1, 1, .val (.int .u8 0), [], 0, .int .u8⟩ := by kernel_rfl
theorem ti6 : tiOf Try.prog 6 = some ⟨false, 1, 1, .val (.int .u8 0), [], 0, .int .u8⟩ := by kernel_rfl
theorem ti7 : tiOf Try.prog 7 = some ⟨true, 4, 24, .agg [.val (.int .i64 0), .val (.int .i64 0), .val (.bool false), .val (.int .u8 0)], [(0, 1, false), (1, 1, false), (2, 1, false), (3, 1, false)], 0, .struct⟩ := by kernel_rfl
theorem ti8 : tiOf Try.prog 8 = some ⟨true, 4, 24, .agg [.val (.int .i64 0), .val (.int .i64 0), .val (.bool false), .val (.int .u8 0)], [(0, 1, false), (1, 1, false), (2, 1, false), (3, 1, false)], 0, .struct⟩ := by kernel_rfl
theorem ti9 : tiOf Try.prog 9 = some ⟨false, 1, 16, .val (.string ⟨#[]⟩), [], 0, .string⟩ := by kernel_rfl
theorem ti10 : tiOf Try.prog 10 = some ⟨false, 1, 16, .val (.string ⟨#[]⟩), [], 0, .string⟩ := by kernel_rfl
theorem ti11 : tiOf Try.prog 11 = some ⟨false, 1, 16, .val (.string ⟨#[]⟩), [], 0, .string⟩ := by kernel_rfl
theorem ti12 : tiOf Try.prog 12 = some ⟨false, 1, 8, .val (.int .u64 0), [], 0, .int .u64⟩ := by kernel_rfl
theorem ti13 : tiOf Try.prog 13 = some ⟨true, 2, 24, .agg [.val (.string ⟨#[]⟩), .val (.int .u64 0)], [(0, 1, false), (1, 1, false)], 0, .struct⟩ := by kernel_rfl
theorem ti14 : tiOf Try.prog 14 = some ⟨true, 2, 24, .agg [.val (.string ⟨#[]⟩), .val (.int .u64 0)], [(0, 1, false), (1, 1, false)], 0, .struct⟩ := by kernel_rfl
theorem ti15 : tiOf Try.prog 15 = some ⟨false, 1, 8, .val (.pointer none), [], 0, .other⟩ := by kernel_rfl
theorem ti16 : tiOf Try.prog 16 = some ⟨false, 1, 8, .val (.pointer none), [], 0, .other⟩ := by kernel_rfl
theorem ti17 : tiOf Try.prog 17 = some ⟨false, 1, 8, .val (.pointer none), [], 0, .other⟩ := by kernel_rfl
theorem ti18 : tiOf Try.prog 18 = some ⟨true, 1, 8, .agg [.val (.pointer none)], [(0, 1, false)], 0, .struct⟩ := by kernel_rfl
theorem ti19 : tiOf Try.prog 19 = some ⟨true, 1, 8, .agg [.val (.pointer none)], [(0, 1, false)], 0, .struct⟩ := by kernel_rfl
theorem ti20 : tiOf Try.prog 20 = some ⟨false, 1, 16, .val .nilIface, [], 0, .iface⟩ := by kernel_rfl
theorem ti21 : tiOf Try.prog 21 = some ⟨false, 1, 4, .val (.int .i32 0), [], 0, .int .i32⟩ := by kernel_rfl
theorem ti22 : tiOf Try.prog 22 = some ⟨false, 1, 24, .val (.slice none 0 0), [], 5, .slice⟩ := by kernel_rfl
theorem ti23 : tiOf Try.prog 23 = some ⟨false, 1, 8, .val .nilFunc, [], 0, .other⟩ := by kernel_rfl
theorem ti24 : tiOf Try.prog 24 = some ⟨false, 1, 24, .val (.slice none 0 0), [], 39, .slice⟩ := by kernel_rfl
theorem ti25 : tiOf Try.prog 25 = some ⟨false, 1, 24, .val (.slice none 0 0), [], 2, .slice⟩ := by kernel_rfl
theorem ti26 : tiOf Try.prog 26 = some ⟨true, 2, 48, .agg [.val (.slice none 0 0), .val (.slice none 0 0)], [(0, 1, false), (1, 1, false)], 0, .struct⟩ := by kernel_rfl
theorem ti27 : tiOf Try.prog 27 = some ⟨true, 2, 48, .agg [.val (.slice none 0 0), .val (.slice none 0 0)], [(0, 1, false), (1, 1, false)], 0, .struct⟩ := by kernel_rfl
theorem ti28 : tiOf Try.prog 28 = some ⟨false, 1, 0, .undef, [], 0, .other⟩ := by kernel_rfl
theorem ti29 : tiOf Try.prog 29 = some ⟨false, 1, 8, .val .nilFunc, [], 0, .other⟩ := by kernel_rfl
theorem ti30 : tiOf Try.prog 30 = some ⟨false, 1, 0, .undef, [], 0, .other⟩ := by kernel_rfl
theorem ti31 : tiOf Try.prog 31 = some ⟨false, 1, 8, .val .nilFunc, [], 0, .other⟩ := by kernel_rfl
theorem ti32 : tiOf Try.prog 32 = some ⟨false, 1, 24, .val (.slice none 0 0), [], 25, .slice⟩ := by kernel_rfl
theorem ti33 : tiOf Try.prog 33 = some ⟨false, 1, 0, .undef, [], 0, .other⟩ := by kernel_rfl
theorem ti34 : tiOf Try.prog 34 = some ⟨false, 1, 8, .val .nilFunc, [], 0, .other⟩ := by kernel_rfl
theorem ti35 : tiOf Try.prog 35 = some ⟨false, 1, 8, .val .nilFunc, [], 0, .other⟩ := by kernel_rfl
theorem ti36 : tiOf Try.prog 36 = some ⟨false, 1, 8, .val .nilFunc, [], 0, .other⟩ := by kernel_rfl
theorem ti37 : tiOf Try.prog 37 = some ⟨false, 1, 8, .val .nilFunc, [], 0, .other⟩ := by kernel_rfl
theorem ti38 : tiOf Try.prog 38 = some ⟨true, 3, 24, .agg [.val (.int .i64 0), .val (.int .i64 0), .val (.int .i64 0)], [(0, 1, false), (1, 1, false), (2, 1, false)], 0, .struct⟩ := by kernel_rfl
theorem ti39 : tiOf Try.prog 39 = some ⟨true, 3, 24, .agg [.val (.int .i64 0), .val (.int .i64 0), .val (.int .i64 0)], [(0, 1, false), (1, 1, false), (2, 1, false)], 0, .struct⟩ := by kernel_rfl
theorem ti40 : tiOf Try.prog 40 = some ⟨false, 1, 8, .val .nilFunc, [], 0, .other⟩ := by kernel_rfl
theorem ti41 : tiOf Try.prog 41 = some ⟨false, 1, 8, .val .nilFunc, [], 0, .other⟩ := by kernel_rfl
theorem ti42 : tiOf Try.prog 42 = some ⟨true, 5, 40, .agg [.val (.int .i64 0), .val (.int .i64 0), .val (.int .i64 0), .val (.int .i64 0), .val (.int .i64 0)], [(0, 1, false), (1, 1, false), (2, 1, false), (3, 1, false), (4, 1, false)], 0, .struct⟩ := by kernel_rfl
theorem ti43 : tiOf Try.prog 43 = some ⟨true, 5, 40, .agg [.val (.int .i64 0), .val (.int .i64 0), .val (.int .i64 0), .val (.int .i64 0), .val (.int .i64 0)], [(0, 1, false), (1, 1, false), (2, 1, false), (3, 1, false), (4, 1, false)], 0, .struct⟩ := by kernel_rfl
theorem ti44 : tiOf Try.prog 44 = some ⟨true, 1, 24, .agg [.val (.slice none 0 0)], [(0, 1, false)], 0, .struct⟩ := by kernel_rfl
theorem ti45 : tiOf Try.prog 45 = some ⟨true, 1, 24, .agg [.val (.slice none 0 0)], [(0, 1, false)], 0, .struct⟩ := by kernel_rfl
theorem ti46 : tiOf Try.prog 46 = some ⟨false, 1, 0, .undef, [], 0, .other⟩ := by kernel_rfl
theorem ti47 : tiOf Try.prog 47 = some ⟨false, 1, 8, .val .nilFunc, [], 0, .other⟩ := by kernel_rfl
theorem ti48 : tiOf Try.prog 48 = some ⟨false, 1, 0, .undef, [], 0, .other⟩ := by kernel_rfl
theorem ti49 : tiOf Try.prog 49 = some ⟨false, 1, 8, .val .nilFunc, [], 0, .other⟩ := by kernel_rfl
theorem ti50 : tiOf Try.prog 50 = some ⟨false, 1, 8, .val .nilFunc, [], 0, .other⟩ := by kernel_rfl
theorem ti51 : tiOf Try.prog 51 = some ⟨false, 1, 8, .val .nilFunc, [], 0, .other⟩ := by kernel_rfl
theorem ti52 : tiOf Try.prog 52 = some ⟨false, 1, 0, .undef, [], 0, .other⟩ := by kernel_rfl
theorem ti53 : tiOf Try.prog 53 = some ⟨false, 1, 8, .val .nilFunc, [], 0, .other⟩ := by kernel_rfl
theorem ti54 : tiOf Try.prog 54 = some ⟨false, 1, 8, .val .nilFunc, [], 0, .other⟩ := by kernel_rfl
theorem ti55 : tiOf Try.prog 55 = some ⟨false, 1, 0, .undef, [], 0, .other⟩ := by kernel_rfl
theorem ti56 : tiOf Try.prog 56 = some ⟨false, 1, 8, .val .nilFunc, [], 0, .other⟩ := by kernel_rfl
theorem ti57 : tiOf Try.prog 57 = some ⟨false, 1, 8, .val .nilFunc, [], 0, .other⟩ := by kernel_rfl
theorem ti58 : tiOf Try.prog 58 = some ⟨false, 1, 0, .undef, [], 0, .other⟩ := by kernel_rfl
theorem ti59 : tiOf Try.prog 59 = some ⟨false, 1, 8, .val .nilFunc, [], 0, .other⟩ := by kernel_rfl
theorem ti60 : tiOf Try.prog 60 = some ⟨false, 1, 8, .val .nilFunc, [], 0, .other⟩ := by kernel_rfl
theorem ti61 : tiOf Try.prog 61 = some ⟨false, 1, 0, .undef, [], 0, .other⟩ := by kernel_rfl
theorem ti62 : tiOf Try.prog 62 = some ⟨false, 1, 8, .val .nilFunc, [], 0, .other⟩ := by kernel_rfl
theorem ti63 : tiOf Try.prog 63 = some ⟨false, 1, 8, .val .nilFunc, [], 0, .other⟩ := by kernel_rfl
theorem ti64 : tiOf Try.prog 64 = some ⟨false, 1, 24, .val (.slice none 0 0), [], 75, .slice⟩ := by kernel_rfl
theorem ti65 : tiOf Try.prog 65 = some ⟨false, 1, 0, .undef, [], 0, .other⟩ := by kernel_rfl
theorem ti66 : tiOf Try.prog 66 = some ⟨false, 1, 8, .val .nilFunc, [], 0, .other⟩ := by kernel_rfl
theorem ti67 : tiOf Try.prog 67 = some ⟨false, 1, 0, .undef, [], 0, .other⟩ := by kernel_rfl
theorem ti68 : tiOf Try.prog 68 = some ⟨false, 1, 8, .val .nilFunc, [], 0, .other⟩ := by kernel_rfl
theorem ti69 : tiOf Try.prog 69 = some ⟨false, 1, 8, .val .nilFunc, [], 0, .other⟩ := by kernel_rfl
theorem ti70 : tiOf Try.prog 70 = some ⟨false, 1, 8, .val .nilFunc, [], 0, .other⟩ := by kernel_rfl
theorem ti71 : tiOf Try.prog 71 = some ⟨false, 1, 0, .undef, [], 0, .other⟩ := by kernel_rfl
theorem ti72 : tiOf Try.prog 72 = some ⟨false, 1, 8, .val .nilFunc, [], 0, .other⟩ := by kernel_rfl
theorem ti73 : tiOf Try.prog 73 = some ⟨false, 1, 8, .val .nilFunc, [], 0, .other⟩ := by kernel_rfl
theorem ti74 : tiOf Try.prog 74 = some ⟨true, 2, 16, .agg [.val (.int .i64 0), .val (.int .i64 0)], [(0, 1, false), (1, 1, false)], 0, .struct⟩ := by kernel_rfl
theorem ti75 : tiOf Try.prog 75 = some ⟨true, 2, 16, .agg [.val (.int .i64 0), .val (.int .i64 0)], [(0, 1, false), (1, 1, false)], 0, .struct⟩ := by kernel_rfl
theorem ti76 : tiOf Try.prog 76 = some ⟨false, 1, 0, .undef, [], 0, .other⟩ := by kernel_rfl
theorem ti77 : tiOf Try.prog 77 = some ⟨false, 1, 8, .val .nilFunc, [], 0, .other⟩ := by kernel_rfl
theorem ti78 : tiOf Try.prog 78 = some ⟨false, 1, 8, .val .nilFunc, [], 0, .other⟩ := by kernel_rfl
theorem ti79 : tiOf Try.prog 79 = some ⟨false, 1, 0, .undef, [], 0, .other⟩ := by kernel_rfl
theorem ti80 : tiOf Try.prog 80 = some ⟨false, 1, 8, .val .nilFunc, [], 0, .other⟩ := by kernel_rfl
theorem ti81 : tiOf Try.prog 81 = some ⟨false, 1, 8, .val .nilFunc, [], 0, .other⟩ := by kernel_rfl
theorem ti82 : tiOf Try.prog 82 = some ⟨false, 1, 8, .val .nilFunc, [], 0, .other⟩ := by kernel_rfl
theorem ti83 : tiOf Try.prog 83 = some ⟨false, 1, 8, .val (.pointer none), [], 0, .other⟩ := by kernel_rfl
theorem ti84 : tiOf Try.prog 84 = some ⟨false, 1, 8, .val .nilFunc, [], 0, .other⟩ := by kernel_rfl
theorem ti85 : tiOf Try.prog 85 = some ⟨false, 1, 8, .val .nilFunc, [], 0, .other⟩ := by kernel_rfl
theorem ti86 : tiOf Try.prog 86 = some ⟨false, 1, 8, .val .nilFunc, [], 0, .other⟩ := by kernel_rfl
theorem ti87 : tiOf Try.prog 87 = some ⟨false, 1, 8, .val .nilFunc, [], 0, .other⟩ := by kernel_rfl
theorem ti88 : tiOf Try.prog 88 = some ⟨false, 1, 8, .val .nilFunc, [], 0, .other⟩ := by kernel_rfl
theorem ti89 : tiOf Try.prog 89 = some ⟨false, 1, 8, .val .nilFunc, [], 0, .other⟩ := by kernel_rfl
theorem ti90 : tiOf Try.prog 90 = some ⟨false, 1, 8, .val .nilFunc, [], 0, .other⟩ := by kernel_rfl
theorem ti91 : tiOf Try.prog 91 = some ⟨false, 1, 8, .val .nilFunc, [], 0, .other⟩ := by kernel_rfl
theorem ti92 : tiOf Try.prog 92 = some ⟨false, 1, 8, .val .nilFunc, [], 0, .other⟩ := by kernel_rfl
theorem ti93 : tiOf Try.prog 93 = some ⟨false, 1, 8, .val .nilFunc, [], 0, .other⟩ := by kernel_rfl
theorem ti94 : tiOf Try.prog 94 = some ⟨false, 1, 8, .val .nilFunc, [], 0, .other⟩ := by kernel_rfl
theorem ti95 : tiOf Try.prog 95 = some ⟨false, 1, 8, .val .nilFunc, [], 0, .other⟩ := by kernel_rfl
theorem ti96 : tiOf Try.prog 96 = some ⟨false, 1, 8, .val .nilFunc, [], 0, .other⟩ := by kernel_rfl
theorem ti97 : tiOf Try.prog 97 = some ⟨false, 1, 0, .undef, [], 0, .other⟩ := by kernel_rfl
theorem ti98 : tiOf Try.prog 98 = some ⟨false, 1, 8, .val .nilFunc, [], 0, .other⟩ := by kernel_rfl
theorem ti99 : tiOf Try.prog 99 = some ⟨false, 1, 8, .val .nilFunc, [], 0, .other⟩ := by kernel_rfl
theorem ti100 : tiOf Try.prog 100 = some ⟨false, 1, 8, .val .nilFunc, [], 0, .other⟩ := by kernel_rfl
theorem ti101 : tiOf Try.prog 101 = some ⟨false, 1, 8, .val .nilFunc, [], 0, .other⟩ := by kernel_rfl
theorem ti102 : tiOf Try.prog 102 = some ⟨false, 1, 8, .val .nilFunc, [], 0, .other⟩ := by kernel_rfl
theorem ti103 : tiOf Try.prog 103 = some ⟨false, 1, 8, .val .nilFunc, [], 0, .other⟩ := by kernel_rfl
theorem ti104 : tiOf Try.prog 104 = some ⟨false, 1, 8, .val .nilFunc, [], 0, .other⟩ := by kernel_rfl
theorem ti105 : tiOf Try.prog 105 = some ⟨false, 1, 8, .val .nilFunc, [], 0, .other⟩ := by kernel_rfl
theorem ti106 : tiOf Try.prog 106 = some ⟨false, 1, 8, .val .nilFunc, [], 0, .other⟩ := by kernel_rfl
theorem ti107 : tiOf Try.prog 107 = some ⟨false, 1, 8, .val .nilFunc, [], 0, .other⟩ := by kernel_rfl
theorem ti108 : tiOf Try.prog 108 = some ⟨false, 1, 8, .val .nilFunc, [], 0, .other⟩ := by kernel_rfl
theorem ti109 : tiOf Try.prog 109 = some ⟨false, 1, 8, .val .nilFunc, [], 0, .other⟩ := by kernel_rfl
theorem ti110 : tiOf Try.prog 110 = some ⟨false, 1, 8, .val .nilFunc, [], 0, .other⟩ := by kernel_rfl
theorem ti111 : tiOf Try.prog 111 = some ⟨false, 1, 8, .val .nilFunc, [], 0, .other⟩ := by kernel_rfl
theorem ti112 : tiOf Try.prog 112 = some ⟨false, 1, 8, .val .nilFunc, [], 0, .other⟩ := by kernel_rfl
theorem ti113 : tiOf Try.prog 113 = some ⟨false, 1, 8, .val .nilFunc, [], 0, .other⟩ := by kernel_rfl
theorem ti114 : tiOf Try.prog 114 = some ⟨false, 1, 8, .val .nilFunc, [], 0, .other⟩ := by kernel_rfl
theorem ti115 : tiOf Try.prog 115 = some ⟨false, 1, 8, .val (.pointer none), [], 0, .other⟩ := by kernel_rfl
theorem ti116 : tiOf Try.prog 116 = some ⟨false, 1, 0, .undef, [], 0, .other⟩ := by kernel_rfl
theorem ti117 : tiOf Try.prog 117 = some ⟨false, 1, 8, .val .nilFunc, [], 0, .other⟩ := by kernel_rfl
theorem ti118 : tiOf Try.prog 118 = some ⟨false, 1, 8, .val .nilFunc, [], 0, .other⟩ := by kernel_rfl
theorem ti119 : tiOf Try.prog 119 = some ⟨false, 1, 8, .val .nilFunc, [], 0, .other⟩ := by kernel_rfl
theorem ti120 : tiOf Try.prog 120 = some ⟨false, 1, 8, .val .nilFunc, [], 0, .other⟩ := by kernel_rfl
theorem ti121 : tiOf Try.prog 121 = some ⟨false, 1, 0, .undef, [], 0, .other⟩ := by kernel_rfl
theorem ti122 : tiOf Try.prog 122 = some ⟨false, 1, 8, .val .nilFunc, [], 0, .other⟩ := by kernel_rfl
theorem ti123 : tiOf Try.prog 123 = some ⟨true, 5, 88, .agg [.val (.slice none 0 0), .val (.slice none 0 0), .val (.int .i64 0), .val (.slice none 0 0), .val (.int .i64 0)], [(0, 1, true), (1, 1, false), (2, 1, false), (3, 1, false), (4, 1, false)], 0, .struct⟩ := by kernel_rfl
theorem ti124 : tiOf Try.prog 124 = some ⟨true, 5, 88, .agg [.val (.slice none 0 0), .val (.slice none 0 0), .val (.int .i64 0), .val (.slice none 0 0), .val (.int .i64 0)], [(0, 1, true), (1, 1, false), (2, 1, false), (3, 1, false), (4, 1, false)], 0, .struct⟩ := by kernel_rfl
theorem ti125 : tiOf Try.prog 125 = some ⟨false, 1, 8, .val .nilFunc, [], 0, .other⟩ := by kernel_rfl
theorem ti126 : tiOf Try.prog 126 = some ⟨false, 1, 8, .val .nilFunc, [], 0, .other⟩ := by kernel_rfl
theorem ti127 : tiOf Try.prog 127 = some ⟨true, 3, 40, .agg [.val (.slice none 0 0), .val (.int .i64 0), .val (.int .i64 0)], [(0, 1, false), (1, 1, false), (2, 1, false)], 0, .struct⟩ := by kernel_rfl
theorem ti128 : tiOf Try.prog 128 = some ⟨true, 3, 40, .agg [.val (.slice none 0 0), .val (.int .i64 0), .val (.int .i64 0)], [(0, 1, false), (1, 1, false), (2, 1, false)], 0, .struct⟩ := by kernel_rfl
theorem ti129 : tiOf Try.prog 129 = some ⟨false, 1, 24, .val (.slice none 0 0), [], 133, .slice⟩ := by kernel_rfl
theorem ti130 : tiOf Try.prog 130 = some ⟨false, 1, 8, .val .nilFunc, [], 0, .other⟩ := by kernel_rfl
theorem ti131 : tiOf Try.prog 131 = some ⟨false, 1, 8, .val .nilFunc, [], 0, .other⟩ := by kernel_rfl
theorem ti132 : tiOf Try.prog 132 = some ⟨true, 4, 32, .agg [.val (.int .i64 0), .val (.int .i64 0), .val (.int .i64 0), .val (.int .i64 0)], [(0, 1, false), (1, 1, false), (2, 1, false), (3, 1, false)], 0, .struct⟩ := by kernel_rfl
theorem ti133 : tiOf Try.prog 133 = some ⟨true, 4, 32, .agg [.val (.int .i64 0), .val (.int .i64 0), .val (.int .i64 0), .val (.int .i64 0)], [(0, 1, false), (1, 1, false), (2, 1, false), (3, 1, false)], 0, .struct⟩ := by kernel_rfl
theorem ti134 : tiOf Try.prog 134 = some ⟨false, 1, 8, .val .nilFunc, [], 0, .other⟩ := by kernel_rfl
theorem ti135 : tiOf Try.prog 135 = some ⟨false, 1, 8, .val .nilFunc, [], 0, .other⟩ := by kernel_rfl
theorem ti136 : tiOf Try.prog 136 = some ⟨false, 1, 8, .val .nilFunc, [], 0, .other⟩ := by kernel_rfl
theorem ti137 : tiOf Try.prog 137 = some ⟨false, 1, 8, .val .nilFunc, [], 0, .other⟩ := by kernel_rfl
theorem ti138 : tiOf Try.prog 138 = some ⟨false, 1, 8, .val .nilFunc, [], 0, .other⟩ := by kernel_rfl
theorem ti139 : tiOf Try.prog 139 = some ⟨false, 1, 8, .val .nilFunc, [], 0, .other⟩ := by kernel_rfl
theorem ti140 : tiOf Try.prog 140 = some ⟨false, 1, 8, .val .nilFunc, [], 0, .other⟩ := by kernel_rfl
theorem ti141 : tiOf Try.prog 141 = some ⟨false, 1, 24, .val (.slice none 0 0), [], 45, .slice⟩ := by kernel_rfl
theorem ti142 : tiOf Try.prog 142 = some ⟨false, 1, 8, .val .nilFunc, [], 0, .other⟩ := by kernel_rfl
theorem ti143 : tiOf Try.prog 143 = some ⟨false, 1, 8, .val .nilFunc, [], 0, .other⟩ := by kernel_rfl
theorem ti144 : tiOf Try.prog 144 = some ⟨false, 1, 8, .val .nilFunc, [], 0, .other⟩ := by kernel_rfl
theorem ti145 : tiOf Try.prog 145 = some ⟨false, 1, 8, .val .nilFunc, [], 0, .other⟩ := by kernel_rfl
theorem ti146 : tiOf Try.prog 146 = some ⟨false, 1, 8, .val .nilFunc, [], 0, .other⟩ := by kernel_rfl
theorem ti147 : tiOf Try.prog 147 = some ⟨false, 1, 8, .val .nilFunc, [], 0, .other⟩ := by kernel_rfl
theorem ti148 : tiOf Try.prog 148 = some ⟨false, 1, 8, .val .nilFunc, [], 0, .other⟩ := by kernel_rfl
theorem ti149 : tiOf Try.prog 149 = some ⟨false, 1, 24, .val (.slice none 0 0), [], 4, .slice⟩ := by kernel_rfl
theorem ti150 : tiOf Try.prog 150 = some ⟨true, 2, 48, .agg [.val (.slice none 0 0), .val (.slice none 0 0)], [(0, 1, false), (1, 1, false)], 0, .struct⟩ := by kernel_rfl
theorem ti151 : tiOf Try.prog 151 = some ⟨true, 2, 48, .agg [.val (.slice none 0 0), .val (.slice none 0 0)], [(0, 1, false), (1, 1, false)], 0, .struct⟩ := by kernel_rfl
theorem ti152 : tiOf Try.prog 152 = some ⟨true, 3, 72, .agg [.val (.slice none 0 0), .val (.slice none 0 0), .val (.slice none 0 0)], [(0, 2, true), (2, 1, false)], 0, .struct⟩ := by kernel_rfl
theorem ti153 : tiOf Try.prog 153 = some ⟨true, 3, 72, .agg [.val (.slice none 0 0), .val (.slice none 0 0), .val (.slice none 0 0)], [(0, 2, true), (2, 1, false)], 0, .struct⟩ := by kernel_rfl
theorem ti154 : tiOf Try.prog 154 = some ⟨false, 1, 8, .val .nilFunc, [], 0, .other⟩ := by kernel_rfl
theorem ti155 : tiOf Try.prog 155 = some ⟨false, 1, 8, .val .nilFunc, [], 0, .other⟩ := by kernel_rfl
theorem ti156 : tiOf Try.prog 156 = some ⟨false, 1, 8, .val .nilFunc, [], 0, .other⟩ := by kernel_rfl
theorem ti157 : tiOf Try.prog 157 = some ⟨false, 1, 8, .val (.int .u64 0), [], 0, .int .u64⟩ := by kernel_rfl
theorem ti158 : tiOf Try.prog 158 = some ⟨false, 1, 8, .val .nilFunc, [], 0, .other⟩ := by kernel_rfl
theorem ti159 : tiOf Try.prog 159 = some ⟨false, 1, 8, .val .nilFunc, [], 0, .other⟩ := by kernel_rfl
theorem ti160 : tiOf Try.prog 160 = some ⟨false, 1, 8, .val .nilFunc, [], 0, .other⟩ := by kernel_rfl
theorem ti161 : tiOf Try.prog 161 = some ⟨false, 1, 8, .val .nilFunc, [], 0, .other⟩ := by kernel_rfl
theorem ti162 : tiOf Try.prog 162 = some ⟨false, 1, 8, .val .nilFunc, [], 0, .other⟩ := by kernel_rfl
theorem ti163 : tiOf Try.prog 163 = some ⟨false, 1, 8, .val .nilFunc, [], 0, .other⟩ := by kernel_rfl
theorem ti164 : tiOf Try.prog 164 = some ⟨false, 1, 8, .val .nilFunc, [], 0, .other⟩ := by kernel_rfl
theorem ti165 : tiOf Try.prog 165 = some ⟨false, 1, 8, .val .nilFunc, [], 0, .other⟩ := by kernel_rfl
theorem ti166 : tiOf Try.prog 166 = some ⟨false, 1, 8, .val (.int .i64 0), [], 0, .int .i64⟩ := by kernel_rfl
theorem ti167 : tiOf Try.prog 167 = some ⟨false, 1, 0, .undef, [], 0, .other⟩ := by kernel_rfl
theorem ti168 : tiOf Try.prog 168 = some ⟨false, 1, 8, .val .nilFunc, [], 0, .other⟩ := by kernel_rfl
theorem ti169 : tiOf Try.prog 169 = some ⟨false, 1, 8, .val .nilFunc, [], 0, .other⟩ := by kernel_rfl
theorem ti170 : tiOf Try.prog 170 = some ⟨false, 1, 8, .val .nilFunc, [], 0, .other⟩ := by kernel_rfl
theorem ti171 : tiOf Try.prog 171 = some ⟨false, 1, 8, .val .nilFunc, [], 0, .other⟩ := by kernel_rfl
theorem ti172 : tiOf Try.prog 172 = some ⟨false, 1, 0, .undef, [], 0, .other⟩ := by kernel_rfl
theorem ti173 : tiOf Try.prog 173 = some ⟨false, 1, 8, .val .nilFunc, [], 0, .other⟩ := by kernel_rfl
theorem ti174 : tiOf Try.prog 174 = some ⟨false, 1, 8, .val .nilFunc, [], 0, .other⟩ := by kernel_rfl
theorem ti175 : tiOf Try.prog 175 = some ⟨false, 1, 4, .val (.int .u32 0), [], 0, .int .u32⟩ := by kernel_rfl
theorem ti176 : tiOf Try.prog 176 = some ⟨false, 1, 8, .val .nilFunc, [], 0, .other⟩ := by kernel_rfl
theorem ti177 : tiOf Try.prog 177 = some ⟨false, 1, 8, .val (.int .u64 0), [], 0, .int .u64⟩ := by kernel_rfl
theorem ti178 : tiOf Try.prog 178 = some ⟨false, 1, 0, .undef, [], 0, .other⟩ := by kernel_rfl
theorem ti179 : tiOf Try.prog 179 = some ⟨false, 1, 8, .val .nilFunc, [], 0, .other⟩ := by kernel_rfl
theorem ti180 : tiOf Try.prog 180 = some ⟨false, 1, 8, .val .nilFunc, [], 0, .other⟩ := by kernel_rfl
theorem ti181 : tiOf Try.prog 181 = some ⟨false, 1, 8, .val (.int .u64 0), [], 0, .int .u64⟩ := by kernel_rfl
theorem ti182 : tiOf Try.prog 182 = some ⟨false, 1, 8, .val .nilFunc, [], 0, .other⟩ := by kernel_rfl
theorem ti183 : tiOf Try.prog 183 = some ⟨false, 1, 8, .val .nilFunc, [], 0, .other⟩ := by kernel_rfl
theorem ti184 : tiOf Try.prog 184 = some ⟨false, 1, 8, .val .nilFunc, [], 0, .other⟩ := by kernel_rfl
theorem ti185 : tiOf Try.prog 185 = some ⟨false, 1, 8, .val (.pointer none), [], 0, .other⟩ := by kernel_rfl
theorem ti186 : tiOf Try.prog 186 = some ⟨false, 1, 8, .val .nilFunc, [], 0, .other⟩ := by kernel_rfl
theorem ti187 : tiOf Try.prog 187 = some ⟨false, 1, 8, .val (.pointer none), [], 0, .other⟩ := by kernel_rfl
theorem ti188 : tiOf Try.prog 188 = some ⟨false, 1, 0, .undef, [], 0, .other⟩ := by kernel_rfl
theorem ti189 : tiOf Try.prog 189 = some ⟨false, 1, 8, .val .nilFunc, [], 0, .other⟩ := by kernel_rfl
theorem ti190 : tiOf Try.prog 190 = some ⟨false, 1, 8, .val .nilFunc, [], 0, .other⟩ := by kernel_rfl
theorem ti191 : tiOf Try.prog 191 = some ⟨true, 4, 40, .agg [.val (.pointer none), .val (.pointer none), .val (.pointer none), .val (.string ⟨#[]⟩)], [(0, 1, false), (1, 1, false), (2, 1, false), (3, 1, false)], 0, .struct⟩ := by kernel_rfl
theorem ti192 : tiOf Try.prog 192 = some ⟨true, 4, 40, .agg [.val (.pointer none), .val (.pointer none), .val (.pointer none), .val (.string ⟨#[]⟩)], [(0, 1, false), (1, 1, false), (2, 1, false), (3, 1, false)], 0, .struct⟩ := by kernel_rfl
theorem ti193 : tiOf Try.prog 193 = some ⟨true, 0, 0, .agg [], [], 0, .other⟩ := by kernel_rfl
theorem ti194 : tiOf Try.prog 194 = some ⟨true, 0, 0, .agg [], [(0, 0, true)], 0, .struct⟩ := by kernel_rfl
theorem ti195 : tiOf Try.prog 195 = some ⟨true, 0, 0, .agg [], [(0, 0, true)], 0, .struct⟩ := by kernel_rfl
theorem ti196 : tiOf Try.prog 196 = some ⟨false, 1, 8, .val .nilFunc, [], 0, .other⟩ := by kernel_rfl
theorem ti197 : tiOf Try.prog 197 = some ⟨false, 1, 1, .val (.int .u8 0), [], 0, .int .u8⟩ := by kernel_rfl
theorem ti198 : tiOf Try.prog 198 = some ⟨false, 1, 1, .val (.int .u8 0), [], 0, .int .u8⟩ := by kernel_rfl
theorem ti199 : tiOf Try.prog 199 = some ⟨false, 1, 8, .val .nilFunc, [], 0, .other⟩ := by kernel_rfl
theorem ti200 : tiOf Try.prog 200 = some ⟨false, 1, 8, .val (.pointer none), [], 0, .other⟩ := by kernel_rfl
theorem ti201 : tiOf Try.prog 201 = some ⟨false, 1, 4, .val (.int .i32 0), [], 0, .int .i32⟩ := by kernel_rfl
theorem ti202 : tiOf Try.prog 202 = some ⟨false, 1, 4, .val (.int .i32 0), [], 0, .int .i32⟩ := by kernel_rfl
theorem ti203 : tiOf Try.prog 203 = some ⟨true, 11, 48, .agg [.val (.int .u64 0), .val (.int .u64 0), .val (.int .u32 0), .val (.int .u8 0), .val (.int .u8 0), .val (.int .u8 0), .val (.int .u8 0), .val .nilFunc, .val (.pointer none), .val (.int .i32 0), .val (.int .i32 0)], [(0, 1, false), (1, 1, false), (2, 1, false), (3, 1, false), (4, 1, false), (5, 1, false), (6, 1, false), (7, 1, false), (8, 1, false), (9, 1, false), (10, 1, false)], 0, .struct⟩ := by kernel_rfl
theorem ti204 : tiOf Try.prog 204 = some ⟨true, 11, 48, .agg [.val (.int .u64 0), .val (.int .u64 0), .val (.int .u32 0), .val (.int .u8 0), .val (.int .u8 0), .val (.int .u8 0), .val (.int .u8 0), .val .nilFunc, .val (.pointer none), .val (.int .i32 0), .val (.int .i32 0)], [(0, 1, false), (1, 1, false), (2, 1, false), (3, 1, false), (4, 1, false), (5, 1, false), (6, 1, false), (7, 1, false), (8, 1, false), (9, 1, false), (10, 1, false)], 0, .struct⟩ := by kernel_rfl
theorem ti205 : tiOf Try.prog 205 = some ⟨false, 1, 8, .val (.pointer none), [], 0, .other⟩ := by kernel_rfl
attribute [go_sem] ti0 ti1 ti2 ti3 ti4 ti5 ti6 ti7 ti8 ti9 ti10 ti11 ti12 ti13 ti14 ti15 ti16 ti17 ti18 ti19
attribute [go_sem] ti20 ti21 ti22 ti23 ti24 ti25 ti26 ti27 ti28 ti29 ti30 ti31 ti32 ti33 ti34 ti35 ti36 ti37 ti38 ti39
attribute [go_sem] ti40 ti41 ti42 ti43 ti44 ti45 ti46 ti47 ti48 ti49 ti50 ti51 ti52 ti53 ti54 ti55 ti56 ti57 ti58 ti59
attribute [go_sem] ti60 ti61 ti62 ti63 ti64 ti65 ti66 ti67 ti68 ti69 ti70 ti71 ti72 ti73 ti74 ti75 ti76 ti77 ti78 ti79
attribute [go_sem] ti80 ti81 ti82 ti83 ti84 ti85 ti86 ti87 ti88 ti89 ti90 ti91 ti92 ti93 ti94 ti95 ti96 ti97 ti98 ti99
attribute [go_sem] ti100 ti101 ti102 ti103 ti104 ti105 ti106 ti107 ti108 ti109 ti110 ti111 ti112 ti113 ti114 ti115 ti116 ti117 ti118 ti119
attribute [go_sem] ti120 ti121 ti122 ti123 ti124 ti125 ti126 ti127 ti128 ti129 ti130 ti131 ti132 ti133 ti134 ti135 ti136 ti137 ti138 ti139
attribute [go_sem] ti140 ti141 ti142 ti143 ti144 ti145 ti146 ti147 ti148 ti149 ti150 ti151 ti152 ti153 ti154 ti155 ti156 ti157 ti158 ti159
attribute [go_sem] ti160 ti161 ti162 ti163 ti164 ti165 ti166 ti167 ti168 ti169 ti170 ti171 ti172 ti173 ti174 ti175 ti176 ti177 ti178 ti179
attribute [go_sem] ti180 ti181 ti182 ti183 ti184 ti185 ti186 ti187 ti188 ti189 ti190 ti191 ti192 ti193 ti194 ti195 ti196 ti197 ti198 ti199
attribute [go_sem] ti200 ti201 ti202 ti203 ti204 ti205
end Go.Vc

/-
  Contracts of small functions on numbers and lists, and of the laws' helpers for lists of numbers.
-/
set_option linter.unusedVariables false
set_option linter.unusedSimpArgs false
set_option linter.unnecessarySimpa false
namespace Go.Vc
open Go.Proofs
set_option maxRecDepth 100000
def isIn (a b c : Int) : Bool := decide (a ≥ b) && decide (a ≤ c)
theorem range_all_succ (p : Nat → Bool) (i : Nat) : (List.range (i + 1)).all p = ((List.range i).all p && p i) := by
  rw [List.range_succ, List.all_append]; simp
theorem range_all_no {p : Nat → Bool} {i n : Nat} (h : i < n) (hp : p i = false) : (List.range n).all p = false := by
  rw [List.all_eq_false]; exact ⟨i, List.mem_range.2 h, by simp [hp]⟩
/-- the numbers below i with a property, in order -/
def flt (p : Nat → Bool) (i : Nat) : List Int := List.map (fun j : Nat => (j : Int)) ((List.range i).filter p)
theorem flt_zero (p : Nat → Bool) : flt p 0 = [] := rfl
theorem flt_succ (p : Nat → Bool) (i : Nat) : flt p (i + 1) = if p i then flt p i ++ [(i : Int)] else flt p i := by
  simp only [flt, List.range_succ, List.filter_append, List.map_append]
  rw [List.filter_cons]
  split <;> simp
theorem flt_len (p : Nat → Bool) (i : Nat) : (flt p i).length ≤ i := by
  rw [flt, List.length_map]
  exact Nat.le_trans (List.length_filter_le _ _) (by simp)
theorem flt_mem {p : Nat → Bool} {i : Nat} {x : Int} (h : x ∈ flt p i) : ∃ j : Nat, j < i ∧ x = j ∧ p j = true := by
  simp only [flt, List.mem_map, List.mem_filter, List.mem_range] at h
  obtain ⟨j, ⟨h1, h2⟩, h3⟩ := h
  exact ⟨j, h1, h3.symm, h2⟩
theorem flt_nodup (p : Nat → Bool) (n : Nat) : (flt p n).Nodup := by
  rw [flt, List.nodup_iff_pairwise_ne, List.pairwise_map]
  exact ((List.nodup_range (n := n)).filter p).imp fun h e => h (by omega)
attribute [irreducible] flt
theorem pred_toNat {i : Nat} (h : 0 < i) : ((i : Int) - 1).toNat = i - 1 := by omega
theorem c_l01In (a b c : Int) : Fn Try.prog 93 [eI a, eI b, eI c] true (· = eB (isIn a b c)) := by
  refine Fn.of_vcN 15 [.tmp 6] Try.func93 rfl rfl rfl rfl rfl (of_decide_eq_true rfl) ?_
  simp -dsimp -implicitDefEqProofs only [go_sem, ↓reduceIte, Nat.reduceEqDiff, Nat.reduceLT, Nat.reduceAdd, Nat.reduceMul, Nat.reduceLeDiff, Nat.le_refl, Int.natCast_zero, Int.toNat_natCast, Int.reduceToNat]
  repeat' (refine Br.intro (fun _ => ?_) (fun _ => ?_) <;> try simp -dsimp -implicitDefEqProofs only [go_sem, ↓reduceIte, Nat.reduceEqDiff, Nat.reduceLT, Nat.reduceAdd, Nat.reduceMul, Nat.reduceLeDiff, Nat.le_refl, Int.natCast_zero, Int.toNat_natCast, Int.reduceToNat, *])
  all_goals first
    | (simp_all [isIn]; done)
    | (simp_all [isIn]; omega)
theorem c_within (a b c : Int) : Fn Try.prog 65 [eI a, eI b, eI c] true (· = eB (isIn a b c)) := by
  refine Fn.of_vcN 15 [.tmp 6] Try.func65 rfl rfl rfl rfl rfl (of_decide_eq_true rfl) ?_
  simp -dsimp -implicitDefEqProofs only [go_sem, ↓reduceIte, Nat.reduceEqDiff, Nat.reduceLT, Nat.reduceAdd, Nat.reduceMul, Nat.reduceLeDiff, Nat.le_refl, Int.natCast_zero, Int.toNat_natCast, Int.reduceToNat]
  repeat' (refine Br.intro (fun _ => ?_) (fun _ => ?_) <;> try simp -dsimp -implicitDefEqProofs only [go_sem, ↓reduceIte, Nat.reduceEqDiff, Nat.reduceLT, Nat.reduceAdd, Nat.reduceMul, Nat.reduceLeDiff, Nat.le_refl, Int.natCast_zero, Int.toNat_natCast, Int.reduceToNat, *])
  all_goals first
    | (simp_all [isIn]; done)
    | (simp_all [isIn]; omega)
theorem c_allWithin (xs : List Int) (a b : Int) (h : xs.length ≤ 9223372036854775807) : Fn Try.prog 116 [eIs xs, eI a, eI b] true (· = eB (xs.all fun x => isIn x a b)) := by
  refine Fn.of_vcN 21 [.tmp 6] Try.func116 rfl rfl rfl rfl rfl (of_decide_eq_true rfl) ?_
  simp -dsimp -implicitDefEqProofs only [go_sem, ↓reduceIte, Nat.reduceEqDiff, Nat.reduceLT, Nat.reduceAdd, Nat.reduceMul, Nat.reduceLeDiff, Nat.le_refl, Int.natCast_zero, Int.toNat_natCast, Int.reduceToNat]
  refine Later.up [1, 2, 9, 10] [18] [] xs.length (fun i => (xs.take i).all fun x => isIn x a b) (fun i => [(11, eI i)]) (fun _ => []) (by simp) ?_ rfl (fun i hi hI => ?_) (fun hI => ?_)
  · simp -dsimp -implicitDefEqProofs only [go_sem, ↓reduceIte, Nat.reduceEqDiff, Nat.reduceLT, Nat.reduceAdd, Nat.reduceMul, Nat.reduceLeDiff, Nat.le_refl, Int.natCast_zero, Int.toNat_natCast, Int.reduceToNat]
  · simp -dsimp -implicitDefEqProofs only [pick_nil, pick_cons, look_nil, look_cons, dropB_nil, dropB_cons, inD_nil, inD_cons, inE_nil, inE_cons, or_t_l, or_f_l, Nat.reduceBEq, Nat.reduceDiv, Nat.reduceAdd, beq_self_eq_true, Bool.false_eq_true, Bool.or_false, ↓reduceIte, Nat.reduceEqDiff, List.cons_append, List.nil_append]
    have no : isIn xs[i] a b = false → (xs.all fun x => isIn x a b) = false := fun h => all_no (p := fun x => isIn x a b) hi h
    have yes : isIn xs[i] a b = true → ((xs.take (i + 1)).all fun x => isIn x a b) = true := fun h => by rw [all_take _ _ _ hi, hI, h]; rfl
    simp -dsimp -implicitDefEqProofs only [go_sem, ↓reduceIte, Nat.reduceEqDiff, Nat.reduceLT, Nat.reduceAdd, Nat.reduceMul, Nat.reduceLeDiff, Nat.le_refl, Int.natCast_zero, Int.toNat_natCast, Int.reduceToNat, lt_len hi, get_some hi]
    repeat' first
      | (refine Br.intro (fun _ => ?_) (fun _ => ?_) <;> try simp -dsimp -implicitDefEqProofs only [go_sem, ↓reduceIte, Nat.reduceEqDiff, Nat.reduceLT, Nat.reduceAdd, Nat.reduceMul, Nat.reduceLeDiff, Nat.le_refl, Int.natCast_zero, Int.toNat_natCast, Int.reduceToNat, *])
      | (with_reducible refine And.intro ?_ ?_)
      | (refine sCallT_one (c_within _ _ _) ?_; try simp -dsimp -implicitDefEqProofs only [go_sem, ↓reduceIte, Nat.reduceEqDiff, Nat.reduceLT, Nat.reduceAdd, Nat.reduceMul, Nat.reduceLeDiff, Nat.le_refl, Int.natCast_zero, Int.toNat_natCast, Int.reduceToNat, *])
    all_goals first | omega | (refine ⟨?_, ?_⟩ <;> omega) | (simp; done) | (rw [no]; clear no yes; simp_all []; done) | (rw [no]; clear no yes; simp_all []; omega) | (refine yes ?_; clear no yes; simp_all []; done) | (refine yes ?_; clear no yes; simp_all []; omega) | (simp_all [I64]; done) | (simp_all [I64]; omega) | trace_state
  · simp -dsimp -implicitDefEqProofs only [pick_nil, pick_cons, look_nil, look_cons, dropB_nil, dropB_cons, inD_nil, inD_cons, inE_nil, inE_cons, or_t_l, or_f_l, Nat.reduceBEq, Nat.reduceDiv, Nat.reduceAdd, beq_self_eq_true, Bool.false_eq_true, Bool.or_false, ↓reduceIte, Nat.reduceEqDiff, List.cons_append, List.nil_append]
    simp -dsimp -implicitDefEqProofs only [go_sem, ↓reduceIte, Nat.reduceEqDiff, Nat.reduceLT, Nat.reduceAdd, Nat.reduceMul, Nat.reduceLeDiff, Nat.le_refl, Int.natCast_zero, Int.toNat_natCast, Int.reduceToNat, nlt_len]
    rw [List.take_length] at hI
    rw [hI]
theorem mixed : Try.prog.follows .mixedOrders = true := by kernel_rfl
theorem c_l01Own (xs : List Int) (h : xs.length ≤ 1048576) : Fn Try.prog 130 [eIs xs] true (· = eIs xs) := by
  refine Fn.of_vcN 6 [.tmp 2] Try.func130 rfl rfl rfl rfl rfl (of_decide_eq_true rfl) ?_
  simp -dsimp -implicitDefEqProofs only [go_sem, ↓reduceIte, Nat.reduceEqDiff, Nat.reduceLT, Nat.reduceAdd, Nat.reduceMul, Nat.reduceLeDiff, Nat.le_refl, Int.natCast_zero, Int.toNat_natCast, Int.reduceToNat]
  repeat' (with_reducible refine And.intro ?_ ?_)
  all_goals first | omega | (refine ⟨?_, ?_⟩ <;> omega) | (simp; done) | (simp; omega) | trace_state
theorem c_CloneI (xs : List Int) (h : xs.length ≤ 1048576) : Fn Try.prog 119 [eIs xs] true (· = eIs xs) := by
  refine Fn.of_vcN 8 [.tmp 2] Try.func119 rfl rfl rfl rfl rfl (of_decide_eq_true rfl) ?_
  simp -dsimp -implicitDefEqProofs only [go_sem, ↓reduceIte, Nat.reduceEqDiff, Nat.reduceLT, Nat.reduceAdd, Nat.reduceMul, Nat.reduceLeDiff, Nat.le_refl, Int.natCast_zero, Int.toNat_natCast, Int.reduceToNat]
  intro c hc
  repeat' first
    | (refine Br.intro (fun _ => ?_) (fun _ => ?_) <;> try simp -dsimp -implicitDefEqProofs only [go_sem, ↓reduceIte, Nat.reduceEqDiff, Nat.reduceLT, Nat.reduceAdd, Nat.reduceMul, Nat.reduceLeDiff, Nat.le_refl, Int.natCast_zero, Int.toNat_natCast, Int.reduceToNat, *])
    | (with_reducible refine And.intro ?_ ?_)
  all_goals first | (simp_all; done) | omega | (refine ⟨?_, ?_⟩ <;> omega) | (simp; done) | (simp; omega) | trace_state
end Go.Vc

/-
  Contracts: the source that hands out numbers.
-/
set_option linter.unusedVariables false
set_option linter.unusedSimpArgs false
set_option linter.unnecessarySimpa false
namespace Go.Vc
open Go.Proofs
set_option maxRecDepth 100000
attribute [go_sem] Option.map_none Nat.sub_zero
abbrev eY (b : UInt8) : AV := .val (.int .u8 b.toNat)
abbrev eYs (bs : List UInt8) : AV := .arr ⟨1, false⟩ (bs.map eY)
structure Src where
  seed : Int
  pos : Nat
def SrcOk (s : Src) : Prop := 0 ≤ s.seed ∧ s.seed < 2147483647
abbrev srcB (v : Nat) (bs : List UInt8) (s : Src) : Blk := .box v [eYs bs, eI s.pos, eI s.seed]
def nx (bs : List UInt8) (n : Int) (s : Src) : Int × Src :=
  if n ≤ 1 then (0, s) else
    if h : s.pos < bs.length then
      ((if n ≤ 256 ∧ ((s.pos : Int) + 1).tmod 2 = 0 then (bs[s.pos].toNat : Int) else ((s.seed * 48271 + 29).tmod 2147483647).tdiv 31 + (bs[s.pos].toNat : Int)).tmod n, ⟨(s.seed * 48271 + 29).tmod 2147483647, s.pos + 1⟩)
    else (((s.seed * 48271 + 29).tmod 2147483647).tdiv 31 |>.tmod n, ⟨(s.seed * 48271 + 29).tmod 2147483647, s.pos⟩)
theorem tmod_in {x n : Int} (hx : 0 ≤ x) (hn : 0 < n) : 0 ≤ x.tmod n ∧ x.tmod n < n := ⟨Int.tmod_nonneg _ hx, Int.tmod_lt_of_pos _ hn⟩
theorem nx_ok (bs : List UInt8) (n : Int) {s : Src} (h : SrcOk s) : 0 ≤ (nx bs n s).1 ∧ (n ≤ 1 → (nx bs n s).1 = 0) ∧ (1 < n → (nx bs n s).1 < n) ∧ SrcOk (nx bs n s).2 := by
  obtain ⟨h1, h2⟩ := h
  have hs := tmod_in (x := s.seed * 48271 + 29) (n := 2147483647) (by omega) (by omega)
  have hx : 0 ≤ ((s.seed * 48271 + 29).tmod 2147483647).tdiv 31 := Int.tdiv_nonneg hs.1 (by omega)
  unfold nx
  split
  · exact ⟨Int.le_refl _, fun _ => rfl, fun h => absurd h (by omega), h1, h2⟩
  · split
    · rename_i hn hp
      have hb : 0 ≤ (if n ≤ 256 ∧ ((s.pos : Int) + 1).tmod 2 = 0 then (bs[s.pos].toNat : Int) else ((s.seed * 48271 + 29).tmod 2147483647).tdiv 31 + (bs[s.pos].toNat : Int)) := by split <;> omega
      have := tmod_in (n := n) hb (by omega)
      exact ⟨this.1, fun h => absurd h hn, fun _ => this.2, hs⟩
    · rename_i hn hp
      have := tmod_in (n := n) hx (by omega)
      exact ⟨this.1, fun h => absurd h hn, fun _ => this.2, hs⟩
set_option maxHeartbeats 4000000 in
theorem c_l01Next (v : Nat) (bs : List UInt8) (n : Int) (s : Src) (h : SrcOk s) (hl : bs.length ≤ 4096) :
    FnM Try.prog 63 [srcB v bs s] [.ptr 1000000000 v 0 0, eI n] (fun x io => x = eI (nx bs n s).1 ∧ io = [srcB v bs (nx bs n s).2]) := by
  refine FnM.of_vcN 78 [.tmp 4] Try.func63 rfl rfl rfl rfl rfl (of_decide_eq_true rfl) ?_
  obtain ⟨h1, h2⟩ := h
  have hs := tmod_in (x := s.seed * 48271 + 29) (n := 2147483647) (by omega) (by omega)
  have hx : 0 ≤ ((s.seed * 48271 + 29).tmod 2147483647).tdiv 31 := Int.tdiv_nonneg hs.1 (by omega)
  have hx2 : ((s.seed * 48271 + 29).tmod 2147483647).tdiv 31 ≤ 2147483647 := by
    have : ((s.seed * 48271 + 29).tmod 2147483647).tdiv 31 ≤ (s.seed * 48271 + 29).tmod 2147483647 := Int.tdiv_le_self _ hs.1
    omega
  by_cases hn : n ≤ 1
  · have hF : nx bs n s = (0, s) := by rw [nx, if_pos hn]
    rw [hF]
    have hn' := decide_eq_true hn
    simp -dsimp -implicitDefEqProofs only [go_sem, ↓reduceIte, Nat.reduceEqDiff, Nat.reduceLT, Nat.reduceAdd, Nat.reduceMul, Nat.reduceLeDiff, Nat.le_refl, Int.natCast_zero, Int.toNat_natCast, Int.reduceToNat, hn']
    all_goals (first | omega | (refine ⟨?_, ?_⟩ <;> omega) | (simp; done) | (simp; omega) | (refine ⟨?_, ?_⟩ <;> omega) | (exact rfl) | (simp; done) | (simp_all; done) | (simp_all; omega) | (exfalso; simp_all [bne]; done) | trace_state)
  have hn' := decide_eq_false hn
  by_cases hp : s.pos < bs.length
  · have hF : nx bs n s = ((if n ≤ 256 ∧ ((s.pos : Int) + 1).tmod 2 = 0 then (bs[s.pos].toNat : Int) else ((s.seed * 48271 + 29).tmod 2147483647).tdiv 31 + (bs[s.pos].toNat : Int)).tmod n, ⟨(s.seed * 48271 + 29).tmod 2147483647, s.pos + 1⟩) := by
      rw [nx, if_neg hn, dif_pos hp]
    have hb : (bs[s.pos].toNat : Int) ≤ 255 := by have := bs[s.pos].toNat_lt; omega
    have gp := get_some hp
    have lp := lt_len hp
    have ep : ((s.pos : Int) + 1 - 1).toNat = s.pos := by omega
    rw [hF]
    clear hF
    generalize hz : bs[s.pos] = z at gp hb
    by_cases hc : n ≤ 256 ∧ ((s.pos : Int) + 1).tmod 2 = 0
    · rw [if_pos hc]
      have c1 := decide_eq_true hc.1
      have c2 : (((s.pos : Int) + 1).tmod 2 == 0) = true := beq_iff_eq.2 hc.2
      clear hc
      simp -dsimp -implicitDefEqProofs only [go_sem, ↓reduceIte, Nat.reduceEqDiff, Nat.reduceLT, Nat.reduceAdd, Nat.reduceMul, Nat.reduceLeDiff, Nat.le_refl, Int.natCast_zero, Int.toNat_natCast, Int.reduceToNat, hn']
      repeat' first
        | (refine Br.intro (fun _ => ?_) (fun _ => ?_) <;> try simp -dsimp -implicitDefEqProofs only [go_sem, ↓reduceIte, Nat.reduceEqDiff, Nat.reduceLT, Nat.reduceAdd, Nat.reduceMul, Nat.reduceLeDiff, Nat.le_refl, Int.natCast_zero, Int.toNat_natCast, Int.reduceToNat, *])
        | (with_reducible refine And.intro ?_ ?_)
        | (refine Later.draw mixed rfl ?_; try simp -dsimp -implicitDefEqProofs only [go_sem, ↓reduceIte, Nat.reduceEqDiff, Nat.reduceLT, Nat.reduceAdd, Nat.reduceMul, Nat.reduceLeDiff, Nat.le_refl, Int.natCast_zero, Int.toNat_natCast, Int.reduceToNat, lp, gp, ep])
      all_goals (first | omega | (refine ⟨?_, ?_⟩ <;> omega) | (simp; done) | (simp; omega) | (refine ⟨?_, ?_⟩ <;> omega) | (exact rfl) | (simp; done) | (simp_all; done) | (simp_all; omega) | (exfalso; simp_all [bne]; done) | trace_state)
    · rw [if_neg hc]
      have c3 : (decide (n ≤ 256) && (((s.pos : Int) + 1).tmod 2 == 0)) = false := by
        rw [Bool.eq_false_iff]; intro h; apply hc; simpa using h
      clear hc
      simp -dsimp -implicitDefEqProofs only [go_sem, ↓reduceIte, Nat.reduceEqDiff, Nat.reduceLT, Nat.reduceAdd, Nat.reduceMul, Nat.reduceLeDiff, Nat.le_refl, Int.natCast_zero, Int.toNat_natCast, Int.reduceToNat, hn']
      repeat' first
        | (refine Br.intro (fun _ => ?_) (fun _ => ?_) <;> try simp -dsimp -implicitDefEqProofs only [go_sem, ↓reduceIte, Nat.reduceEqDiff, Nat.reduceLT, Nat.reduceAdd, Nat.reduceMul, Nat.reduceLeDiff, Nat.le_refl, Int.natCast_zero, Int.toNat_natCast, Int.reduceToNat, *])
        | (with_reducible refine And.intro ?_ ?_)
        | (refine Later.draw mixed rfl ?_; try simp -dsimp -implicitDefEqProofs only [go_sem, ↓reduceIte, Nat.reduceEqDiff, Nat.reduceLT, Nat.reduceAdd, Nat.reduceMul, Nat.reduceLeDiff, Nat.le_refl, Int.natCast_zero, Int.toNat_natCast, Int.reduceToNat, lp, gp, ep])
      all_goals (first | omega | (refine ⟨?_, ?_⟩ <;> omega) | (simp; done) | (simp; omega) | (refine ⟨?_, ?_⟩ <;> omega) | (exact rfl) | (simp; done) | (simp_all; done) | (simp_all; omega) | (exfalso; simp_all [bne]; done) | trace_state)
  · have hF : nx bs n s = (((s.seed * 48271 + 29).tmod 2147483647).tdiv 31 |>.tmod n, ⟨(s.seed * 48271 + 29).tmod 2147483647, s.pos⟩) := by
      rw [nx, if_neg hn, dif_neg hp]
    have lp : decide ((s.pos : Int) < (bs.length : Int)) = false := decide_eq_false (by omega)
    rw [hF]
    clear hF
    simp -dsimp -implicitDefEqProofs only [go_sem, ↓reduceIte, Nat.reduceEqDiff, Nat.reduceLT, Nat.reduceAdd, Nat.reduceMul, Nat.reduceLeDiff, Nat.le_refl, Int.natCast_zero, Int.toNat_natCast, Int.reduceToNat, hn']
    repeat' first
      | (refine Br.intro (fun _ => ?_) (fun _ => ?_) <;> try simp -dsimp -implicitDefEqProofs only [go_sem, ↓reduceIte, Nat.reduceEqDiff, Nat.reduceLT, Nat.reduceAdd, Nat.reduceMul, Nat.reduceLeDiff, Nat.le_refl, Int.natCast_zero, Int.toNat_natCast, Int.reduceToNat, *])
      | (with_reducible refine And.intro ?_ ?_)
      | (refine Later.draw mixed rfl ?_; try simp -dsimp -implicitDefEqProofs only [go_sem, ↓reduceIte, Nat.reduceEqDiff, Nat.reduceLT, Nat.reduceAdd, Nat.reduceMul, Nat.reduceLeDiff, Nat.le_refl, Int.natCast_zero, Int.toNat_natCast, Int.reduceToNat, lp])
    all_goals (first | omega | (refine ⟨?_, ?_⟩ <;> omega) | (simp; done) | (simp; omega) | (refine ⟨?_, ?_⟩ <;> omega) | (exact rfl) | (simp; done) | (simp_all; done) | (simp_all; omega) | (exfalso; simp_all [bne]; done) | trace_state)
attribute [irreducible] nx
end Go.Vc

/-
  Codes, read as data.
-/
set_option linter.unusedVariables false
set_option linter.unusedSimpArgs false
set_option linter.unnecessarySimpa false
namespace Go.Vc
open Go.Proofs
set_option maxRecDepth 100000
theorem dec_Code : Dec Try.prog 22 (fun xs : List UInt8 => xs.length ≤ maxLen ∧ ∀ a ∈ xs, True) (fun xs => [eYs xs]) :=
  Dec.slice false 1 Try.underlying22 (by kernel_rfl) (by decide) (fun _ => rfl) (fun _ => rfl) (Dec.u8 Try.underlying5)
end Go.Vc

/-
  Contracts of the laws' helpers for lists of lists of numbers, and for locks.
-/
set_option linter.unusedVariables false
set_option linter.unusedSimpArgs false
set_option linter.unnecessarySimpa false
namespace Go.Vc
open Go.Proofs
set_option maxRecDepth 100000
abbrev eIss (xs : List (List Int)) : AV := .arr ⟨1, false⟩ (xs.map eIs)
abbrev eLk (l : List (List Int)) : AV := .agg [eIss l]
def tot (xs : List (List Int)) : Nat := (xs.map List.length).sum
theorem tot_nil : tot [] = 0 := rfl
theorem tot_take (xs : List (List Int)) (i : Nat) (h : i < xs.length) : tot (xs.take (i + 1)) = tot (xs.take i) + xs[i].length := by
  rw [List.take_succ_eq_append_getElem h, tot, List.map_append, List.sum_append]; simp [tot]
theorem tot_le (xs : List (List Int)) (i : Nat) : tot (xs.take i) ≤ tot xs := by
  have : tot xs = tot (xs.take i) + tot (xs.drop i) := by
    rw [tot, tot, tot, ← List.sum_append, ← List.map_append, List.take_append_drop]
  omega
theorem len_tot (xs : List (List Int)) (x : List Int) (h : x ∈ xs) : x.length ≤ tot xs := by
  obtain ⟨i, hi, rfl⟩ := List.getElem_of_mem h
  have := tot_le xs (i + 1)
  rw [tot_take xs i hi] at this; omega
theorem tot_eq (xs : List (List Int)) : tot xs = (xs.map List.length).sum := rfl
attribute [irreducible] tot
structure MkM where
  chambers : Int
  depths : Int
  step : Int
  same : Int
  least : Int
  deriving DecidableEq
abbrev eMk (m : MkM) : AV := .agg [eI m.chambers, eI m.depths, eI m.step, eI m.same, eI m.least]
end Go.Vc

/-
  Contracts of the functions on makers; rising lists; members of lists.
-/
set_option linter.unusedVariables false
set_option linter.unusedSimpArgs false
set_option linter.unnecessarySimpa false
namespace Go.Vc
open Go.Proofs
set_option maxRecDepth 100000
def isMk (m : MkM) : Bool := isIn m.chambers 2 6 && isIn m.depths 2 8 && isIn m.step 1 (m.depths - 1) && isIn m.same 1 m.chambers && isIn m.least 1 (if m.depths < m.chambers then m.depths else m.chambers)
theorem isMk_num {m : MkM} (h : isMk m = true) : (2 ≤ m.chambers ∧ m.chambers ≤ 6) ∧ 2 ≤ m.depths ∧ m.depths ≤ 8 := by
  simp [isMk, isIn] at h; omega
theorem c_sIsMaker (m : MkM) : Fn Try.prog 124 [eMk m] true (· = eB (isMk m)) := by
  refine Fn.of_vcN 36 [.tmp 2] Try.func124 rfl rfl rfl rfl rfl (of_decide_eq_true rfl) ?_
  simp -dsimp -implicitDefEqProofs only [go_sem, ↓reduceIte, Nat.reduceEqDiff, Nat.reduceLT, Nat.reduceAdd, Nat.reduceMul, Nat.reduceLeDiff, Nat.le_refl, Int.natCast_zero, Int.toNat_natCast, Int.reduceToNat]
  repeat' first
    | (refine Br.intro (fun _ => ?_) (fun _ => ?_) <;> try simp -dsimp -implicitDefEqProofs only [go_sem, ↓reduceIte, Nat.reduceEqDiff, Nat.reduceLT, Nat.reduceAdd, Nat.reduceMul, Nat.reduceLeDiff, Nat.le_refl, Int.natCast_zero, Int.toNat_natCast, Int.reduceToNat, *])
    | (with_reducible refine And.intro ?_ ?_)
    | (refine sCallT_one (c_l01In _ _ _) ?_; try simp -dsimp -implicitDefEqProofs only [go_sem, ↓reduceIte, Nat.reduceEqDiff, Nat.reduceLT, Nat.reduceAdd, Nat.reduceMul, Nat.reduceLeDiff, Nat.le_refl, Int.natCast_zero, Int.toNat_natCast, Int.reduceToNat, *])
  all_goals first
    | (simp_all [isMk, isIn, I64]; done)
    | (simp_all [isMk, isIn, I64]; omega)
    | trace_state
theorem c_iIsMaker (m : MkM) : Fn Try.prog 126 [eMk m] true (· = eB (isMk m)) := by
  refine Fn.of_vcN 36 [.tmp 2] Try.func126 rfl rfl rfl rfl rfl (of_decide_eq_true rfl) ?_
  simp -dsimp -implicitDefEqProofs only [go_sem, ↓reduceIte, Nat.reduceEqDiff, Nat.reduceLT, Nat.reduceAdd, Nat.reduceMul, Nat.reduceLeDiff, Nat.le_refl, Int.natCast_zero, Int.toNat_natCast, Int.reduceToNat]
  repeat' first
    | (refine Br.intro (fun _ => ?_) (fun _ => ?_) <;> try simp -dsimp -implicitDefEqProofs only [go_sem, ↓reduceIte, Nat.reduceEqDiff, Nat.reduceLT, Nat.reduceAdd, Nat.reduceMul, Nat.reduceLeDiff, Nat.le_refl, Int.natCast_zero, Int.toNat_natCast, Int.reduceToNat, *])
    | (with_reducible refine And.intro ?_ ?_)
    | (refine sCallT_one (c_within _ _ _) ?_; try simp -dsimp -implicitDefEqProofs only [go_sem, ↓reduceIte, Nat.reduceEqDiff, Nat.reduceLT, Nat.reduceAdd, Nat.reduceMul, Nat.reduceLeDiff, Nat.le_refl, Int.natCast_zero, Int.toNat_natCast, Int.reduceToNat, *])
  all_goals first
    | (simp_all [isMk, isIn, I64]; done)
    | (simp_all [isMk, isIn, I64]; omega)
    | trace_state
def riseAt (xs : List Int) (n : Int) (i : Nat) : Bool := decide (0 ≤ xs.getD i 0) && decide (xs.getD i 0 < n) && (i == 0 || decide (xs.getD (i - 1) 0 < xs.getD i 0))
def rises (xs : List Int) (n : Int) : Bool := (List.range xs.length).all (riseAt xs n)
theorem c_l01Rises (xs : List Int) (n : Int) (h : xs.length ≤ 9223372036854775807) : Fn Try.prog 77 [eIs xs, eI n] true (· = eB (rises xs n)) := by
  refine Fn.of_vcN 41 [.tmp 4] Try.func77 rfl rfl rfl rfl rfl (of_decide_eq_true rfl) ?_
  simp -dsimp -implicitDefEqProofs only [go_sem, ↓reduceIte, Nat.reduceEqDiff, Nat.reduceLT, Nat.reduceAdd, Nat.reduceMul, Nat.reduceLeDiff, Nat.le_refl, Int.natCast_zero, Int.toNat_natCast, Int.reduceToNat]
  refine Later.up [0, 1] [8] [] xs.length (fun i => (List.range i).all (riseAt xs n)) (fun i => [(5, eI i)]) (fun _ => []) (by simp) ?_ rfl (fun i hi hI => ?_) (fun hI => ?_)
  · simp -dsimp -implicitDefEqProofs only [go_sem, ↓reduceIte, Nat.reduceEqDiff, Nat.reduceLT, Nat.reduceAdd, Nat.reduceMul, Nat.reduceLeDiff, Nat.le_refl, Int.natCast_zero, Int.toNat_natCast, Int.reduceToNat]
  · have no : riseAt xs n i = false → rises xs n = false := range_all_no hi
    have yes : riseAt xs n i = true → (List.range (i + 1)).all (riseAt xs n) = true := fun h => by rw [range_all_succ, hI, h]; rfl
    have hi' : i - 1 < xs.length := by omega
    have gi := get_some hi
    have li := lt_len hi
    by_cases hi0 : 0 < i
    rotate_left
    · have g3 : decide ((i : Int) > 0) = false := by simp; omega
      simp -dsimp -implicitDefEqProofs only [pick_nil, pick_cons, look_nil, look_cons, dropB_nil, dropB_cons, inD_nil, inD_cons, inE_nil, inE_cons, or_t_l, or_f_l, Nat.reduceBEq, Nat.reduceDiv, Nat.reduceAdd, beq_self_eq_true, Bool.false_eq_true, Bool.or_false, ↓reduceIte, Nat.reduceEqDiff, List.cons_append, List.nil_append]
      simp -dsimp -implicitDefEqProofs only [go_sem, ↓reduceIte, Nat.reduceEqDiff, Nat.reduceLT, Nat.reduceAdd, Nat.reduceMul, Nat.reduceLeDiff, Nat.le_refl, Int.natCast_zero, Int.toNat_natCast, Int.reduceToNat, lt_len hi, get_some hi, g3]
      repeat' first
        | (refine Br.intro (fun _ => ?_) (fun _ => ?_) <;> try simp -dsimp -implicitDefEqProofs only [go_sem, ↓reduceIte, Nat.reduceEqDiff, Nat.reduceLT, Nat.reduceAdd, Nat.reduceMul, Nat.reduceLeDiff, Nat.le_refl, Int.natCast_zero, Int.toNat_natCast, Int.reduceToNat, *])
        | (with_reducible refine And.intro ?_ ?_)
        | (refine Later.draw mixed rfl ?_; simp -dsimp -implicitDefEqProofs only [go_sem, ↓reduceIte, Nat.reduceEqDiff, Nat.reduceLT, Nat.reduceAdd, Nat.reduceMul, Nat.reduceLeDiff, Nat.le_refl, Int.natCast_zero, Int.toNat_natCast, Int.reduceToNat, lt_len hi, get_some hi, g3])
      all_goals first
        | omega
        | (refine ⟨?_, ?_⟩ <;> omega)
        | (simp; done)
        | rfl
        | (rw [no]; clear no yes; simp_all [riseAt]; done) | (rw [no]; clear no yes; simp_all [riseAt]; omega) | (refine yes ?_; clear no yes; simp_all [riseAt]; done) | (refine yes ?_; clear no yes; simp_all [riseAt]; omega)
        | (rw [← List.range_succ]; refine yes ?_; clear no yes; simp_all [riseAt]; done)
        | (rw [← List.range_succ]; refine yes ?_; clear no yes; simp_all [riseAt]; omega)
        | (have e0 : i = 0 := by omega
           clear hi0; subst e0; first | (rw [no]; clear no yes; simp_all [riseAt]; done) | (rw [no]; clear no yes; simp_all [riseAt]; omega) | (refine yes ?_; clear no yes; simp_all [riseAt]; done) | (refine yes ?_; clear no yes; simp_all [riseAt]; omega))
        | trace_state
    · have g2 : xs[((i : Int) - 1).toNat]? = some xs[i - 1] := by rw [pred_toNat hi0]; exact get_some hi'
      have g3 : decide ((i : Int) > 0) = true := by simp; omega
      simp -dsimp -implicitDefEqProofs only [pick_nil, pick_cons, look_nil, look_cons, dropB_nil, dropB_cons, inD_nil, inD_cons, inE_nil, inE_cons, or_t_l, or_f_l, Nat.reduceBEq, Nat.reduceDiv, Nat.reduceAdd, beq_self_eq_true, Bool.false_eq_true, Bool.or_false, ↓reduceIte, Nat.reduceEqDiff, List.cons_append, List.nil_append]
      simp -dsimp -implicitDefEqProofs only [go_sem, ↓reduceIte, Nat.reduceEqDiff, Nat.reduceLT, Nat.reduceAdd, Nat.reduceMul, Nat.reduceLeDiff, Nat.le_refl, Int.natCast_zero, Int.toNat_natCast, Int.reduceToNat, lt_len hi, get_some hi, g2, g3]
      repeat' first
        | (refine Br.intro (fun _ => ?_) (fun _ => ?_) <;> try simp -dsimp -implicitDefEqProofs only [go_sem, ↓reduceIte, Nat.reduceEqDiff, Nat.reduceLT, Nat.reduceAdd, Nat.reduceMul, Nat.reduceLeDiff, Nat.le_refl, Int.natCast_zero, Int.toNat_natCast, Int.reduceToNat, *])
        | (with_reducible refine And.intro ?_ ?_)
        | (refine Later.draw mixed rfl ?_; simp -dsimp -implicitDefEqProofs only [go_sem, ↓reduceIte, Nat.reduceEqDiff, Nat.reduceLT, Nat.reduceAdd, Nat.reduceMul, Nat.reduceLeDiff, Nat.le_refl, Int.natCast_zero, Int.toNat_natCast, Int.reduceToNat, lt_len hi, get_some hi, g2, g3])
      all_goals first
        | omega
        | (refine ⟨?_, ?_⟩ <;> omega)
        | (simp; done)
        | rfl
        | (rw [no]; clear no yes; simp_all [riseAt]; done) | (rw [no]; clear no yes; simp_all [riseAt]; omega) | (refine yes ?_; clear no yes; simp_all [riseAt]; done) | (refine yes ?_; clear no yes; simp_all [riseAt]; omega)
        | (rw [← List.range_succ]; refine yes ?_; clear no yes; simp_all [riseAt]; done)
        | (rw [← List.range_succ]; refine yes ?_; clear no yes; simp_all [riseAt]; omega)
        | (have e0 : i = 0 := by omega
           clear hi0; subst e0; first | (rw [no]; clear no yes; simp_all [riseAt]; done) | (rw [no]; clear no yes; simp_all [riseAt]; omega) | (refine yes ?_; clear no yes; simp_all [riseAt]; done) | (refine yes ?_; clear no yes; simp_all [riseAt]; omega))
        | trace_state
  · simp -dsimp -implicitDefEqProofs only [pick_nil, pick_cons, look_nil, look_cons, dropB_nil, dropB_cons, inD_nil, inD_cons, inE_nil, inE_cons, or_t_l, or_f_l, Nat.reduceBEq, Nat.reduceDiv, Nat.reduceAdd, beq_self_eq_true, Bool.false_eq_true, Bool.or_false, ↓reduceIte, Nat.reduceEqDiff, List.cons_append, List.nil_append]
    simp -dsimp -implicitDefEqProofs only [go_sem, ↓reduceIte, Nat.reduceEqDiff, Nat.reduceLT, Nat.reduceAdd, Nat.reduceMul, Nat.reduceLeDiff, Nat.le_refl, Int.natCast_zero, Int.toNat_natCast, Int.reduceToNat, nlt_len]
    rw [rises, hI]
theorem c_IsRising (xs : List Int) (n : Int) (h : xs.length ≤ 9223372036854775807) : Fn Try.prog 74 [eIs xs, eI n] true (· = eB (rises xs n)) := by
  refine Fn.of_vcN 35 [.tmp 4] Try.func74 rfl rfl rfl rfl rfl (of_decide_eq_true rfl) ?_
  simp -dsimp -implicitDefEqProofs only [go_sem, ↓reduceIte, Nat.reduceEqDiff, Nat.reduceLT, Nat.reduceAdd, Nat.reduceMul, Nat.reduceLeDiff, Nat.le_refl, Int.natCast_zero, Int.toNat_natCast, Int.reduceToNat]
  refine Later.up [0, 1, 7, 8] [] [] xs.length (fun i => (List.range i).all (riseAt xs n)) (fun i => [(9, eI i)]) (fun _ => []) (by simp) ?_ rfl (fun i hi hI => ?_) (fun hI => ?_)
  · simp -dsimp -implicitDefEqProofs only [go_sem, ↓reduceIte, Nat.reduceEqDiff, Nat.reduceLT, Nat.reduceAdd, Nat.reduceMul, Nat.reduceLeDiff, Nat.le_refl, Int.natCast_zero, Int.toNat_natCast, Int.reduceToNat]
  · have no : riseAt xs n i = false → rises xs n = false := range_all_no hi
    have yes : riseAt xs n i = true → (List.range (i + 1)).all (riseAt xs n) = true := fun h => by rw [range_all_succ, hI, h]; rfl
    have hi' : i - 1 < xs.length := by omega
    have gi := get_some hi
    have li := lt_len hi
    by_cases hi0 : 0 < i
    rotate_left
    · have g3 : decide ((i : Int) > 0) = false := by simp; omega
      simp -dsimp -implicitDefEqProofs only [pick_nil, pick_cons, look_nil, look_cons, dropB_nil, dropB_cons, inD_nil, inD_cons, inE_nil, inE_cons, or_t_l, or_f_l, Nat.reduceBEq, Nat.reduceDiv, Nat.reduceAdd, beq_self_eq_true, Bool.false_eq_true, Bool.or_false, ↓reduceIte, Nat.reduceEqDiff, List.cons_append, List.nil_append]
      simp -dsimp -implicitDefEqProofs only [go_sem, ↓reduceIte, Nat.reduceEqDiff, Nat.reduceLT, Nat.reduceAdd, Nat.reduceMul, Nat.reduceLeDiff, Nat.le_refl, Int.natCast_zero, Int.toNat_natCast, Int.reduceToNat, lt_len hi, get_some hi, g3]
      repeat' first
        | (refine Br.intro (fun _ => ?_) (fun _ => ?_) <;> try simp -dsimp -implicitDefEqProofs only [go_sem, ↓reduceIte, Nat.reduceEqDiff, Nat.reduceLT, Nat.reduceAdd, Nat.reduceMul, Nat.reduceLeDiff, Nat.le_refl, Int.natCast_zero, Int.toNat_natCast, Int.reduceToNat, *])
        | (with_reducible refine And.intro ?_ ?_)
        | (refine Later.draw mixed rfl ?_; simp -dsimp -implicitDefEqProofs only [go_sem, ↓reduceIte, Nat.reduceEqDiff, Nat.reduceLT, Nat.reduceAdd, Nat.reduceMul, Nat.reduceLeDiff, Nat.le_refl, Int.natCast_zero, Int.toNat_natCast, Int.reduceToNat, lt_len hi, get_some hi, g3])
      all_goals first
        | omega
        | (refine ⟨?_, ?_⟩ <;> omega)
        | (simp; done)
        | rfl
        | (rw [no]; clear no yes; simp_all [riseAt]; done) | (rw [no]; clear no yes; simp_all [riseAt]; omega) | (refine yes ?_; clear no yes; simp_all [riseAt]; done) | (refine yes ?_; clear no yes; simp_all [riseAt]; omega)
        | (rw [← List.range_succ]; refine yes ?_; clear no yes; simp_all [riseAt]; done)
        | (rw [← List.range_succ]; refine yes ?_; clear no yes; simp_all [riseAt]; omega)
        | (have e0 : i = 0 := by omega
           clear hi0; subst e0; first | (rw [no]; clear no yes; simp_all [riseAt]; done) | (rw [no]; clear no yes; simp_all [riseAt]; omega) | (refine yes ?_; clear no yes; simp_all [riseAt]; done) | (refine yes ?_; clear no yes; simp_all [riseAt]; omega))
        | trace_state
    · have g2 : xs[((i : Int) - 1).toNat]? = some xs[i - 1] := by rw [pred_toNat hi0]; exact get_some hi'
      have g3 : decide ((i : Int) > 0) = true := by simp; omega
      simp -dsimp -implicitDefEqProofs only [pick_nil, pick_cons, look_nil, look_cons, dropB_nil, dropB_cons, inD_nil, inD_cons, inE_nil, inE_cons, or_t_l, or_f_l, Nat.reduceBEq, Nat.reduceDiv, Nat.reduceAdd, beq_self_eq_true, Bool.false_eq_true, Bool.or_false, ↓reduceIte, Nat.reduceEqDiff, List.cons_append, List.nil_append]
      simp -dsimp -implicitDefEqProofs only [go_sem, ↓reduceIte, Nat.reduceEqDiff, Nat.reduceLT, Nat.reduceAdd, Nat.reduceMul, Nat.reduceLeDiff, Nat.le_refl, Int.natCast_zero, Int.toNat_natCast, Int.reduceToNat, lt_len hi, get_some hi, g2, g3]
      repeat' first
        | (refine Br.intro (fun _ => ?_) (fun _ => ?_) <;> try simp -dsimp -implicitDefEqProofs only [go_sem, ↓reduceIte, Nat.reduceEqDiff, Nat.reduceLT, Nat.reduceAdd, Nat.reduceMul, Nat.reduceLeDiff, Nat.le_refl, Int.natCast_zero, Int.toNat_natCast, Int.reduceToNat, *])
        | (with_reducible refine And.intro ?_ ?_)
        | (refine Later.draw mixed rfl ?_; simp -dsimp -implicitDefEqProofs only [go_sem, ↓reduceIte, Nat.reduceEqDiff, Nat.reduceLT, Nat.reduceAdd, Nat.reduceMul, Nat.reduceLeDiff, Nat.le_refl, Int.natCast_zero, Int.toNat_natCast, Int.reduceToNat, lt_len hi, get_some hi, g2, g3])
      all_goals first
        | omega
        | (refine ⟨?_, ?_⟩ <;> omega)
        | (simp; done)
        | rfl
        | (rw [no]; clear no yes; simp_all [riseAt]; done) | (rw [no]; clear no yes; simp_all [riseAt]; omega) | (refine yes ?_; clear no yes; simp_all [riseAt]; done) | (refine yes ?_; clear no yes; simp_all [riseAt]; omega)
        | (rw [← List.range_succ]; refine yes ?_; clear no yes; simp_all [riseAt]; done)
        | (rw [← List.range_succ]; refine yes ?_; clear no yes; simp_all [riseAt]; omega)
        | (have e0 : i = 0 := by omega
           clear hi0; subst e0; first | (rw [no]; clear no yes; simp_all [riseAt]; done) | (rw [no]; clear no yes; simp_all [riseAt]; omega) | (refine yes ?_; clear no yes; simp_all [riseAt]; done) | (refine yes ?_; clear no yes; simp_all [riseAt]; omega))
        | trace_state
  · simp -dsimp -implicitDefEqProofs only [pick_nil, pick_cons, look_nil, look_cons, dropB_nil, dropB_cons, inD_nil, inD_cons, inE_nil, inE_cons, or_t_l, or_f_l, Nat.reduceBEq, Nat.reduceDiv, Nat.reduceAdd, beq_self_eq_true, Bool.false_eq_true, Bool.or_false, ↓reduceIte, Nat.reduceEqDiff, List.cons_append, List.nil_append]
    simp -dsimp -implicitDefEqProofs only [go_sem, ↓reduceIte, Nat.reduceEqDiff, Nat.reduceLT, Nat.reduceAdd, Nat.reduceMul, Nat.reduceLeDiff, Nat.le_refl, Int.natCast_zero, Int.toNat_natCast, Int.reduceToNat, nlt_len]
    rw [rises, hI]
def has (xs : List Int) (x : Int) : Bool := !(xs.all fun y => !(y == x))
theorem c_l01Has (xs : List Int) (x : Int) (h : xs.length ≤ 1048576) : Fn Try.prog 129 [eIs xs, eI x] true (· = eB (has xs x)) := by
  refine Fn.of_vcN 18 [.tmp 4] Try.func129 rfl rfl rfl rfl rfl (of_decide_eq_true rfl) ?_
  simp -dsimp -implicitDefEqProofs only [go_sem, ↓reduceIte, Nat.reduceEqDiff, Nat.reduceLT, Nat.reduceAdd, Nat.reduceMul, Nat.reduceLeDiff, Nat.le_refl, Int.natCast_zero, Int.toNat_natCast, Int.reduceToNat]
  refine Later.up [0, 1] [8] [] xs.length (fun i => (xs.take i).all (fun y => !(y == x))) (fun i => [(5, eI i)]) (fun _ => []) (by simp) ?_ rfl (fun i hi hI => ?_) (fun hI => ?_)
  · simp -dsimp -implicitDefEqProofs only [go_sem, ↓reduceIte, Nat.reduceEqDiff, Nat.reduceLT, Nat.reduceAdd, Nat.reduceMul, Nat.reduceLeDiff, Nat.le_refl, Int.natCast_zero, Int.toNat_natCast, Int.reduceToNat]
  · simp -dsimp -implicitDefEqProofs only [pick_nil, pick_cons, look_nil, look_cons, dropB_nil, dropB_cons, inD_nil, inD_cons, inE_nil, inE_cons, or_t_l, or_f_l, Nat.reduceBEq, Nat.reduceDiv, Nat.reduceAdd, beq_self_eq_true, Bool.false_eq_true, Bool.or_false, ↓reduceIte, Nat.reduceEqDiff, List.cons_append, List.nil_append]
    have gi := get_some hi
    have li := lt_len hi
    have no : (!(xs[i] == x)) = false → (xs.all fun y => !(y == x)) = false := fun h => by simp [has, all_no (p := fun y => !(y == x)) hi h]
    have yes : (!(xs[i] == x)) = true → ((xs.take (i + 1)).all (fun y => !(y == x))) = true := fun h => by rw [all_take _ _ _ hi, hI]; simpa using h
    simp -dsimp -implicitDefEqProofs only [go_sem, ↓reduceIte, Nat.reduceEqDiff, Nat.reduceLT, Nat.reduceAdd, Nat.reduceMul, Nat.reduceLeDiff, Nat.le_refl, Int.natCast_zero, Int.toNat_natCast, Int.reduceToNat, li, gi]
    repeat' first
      | (refine Br.intro (fun _ => ?_) (fun _ => ?_) <;> try simp -dsimp -implicitDefEqProofs only [go_sem, ↓reduceIte, Nat.reduceEqDiff, Nat.reduceLT, Nat.reduceAdd, Nat.reduceMul, Nat.reduceLeDiff, Nat.le_refl, Int.natCast_zero, Int.toNat_natCast, Int.reduceToNat, *])
      | (with_reducible refine And.intro ?_ ?_)
      | (refine Later.draw mixed rfl ?_; try simp -dsimp -implicitDefEqProofs only [go_sem, ↓reduceIte, Nat.reduceEqDiff, Nat.reduceLT, Nat.reduceAdd, Nat.reduceMul, Nat.reduceLeDiff, Nat.le_refl, Int.natCast_zero, Int.toNat_natCast, Int.reduceToNat, *])
    all_goals first
      | omega
      | (refine ⟨?_, ?_⟩ <;> omega)
      | (simp; done)
      | rfl
      | (rw [has, no (by rw [‹(xs[i] == x) = true›]; rfl)]; rfl) | (refine yes ?_; clear no yes; simp_all; done)
      | trace_state
  · simp -dsimp -implicitDefEqProofs only [pick_nil, pick_cons, look_nil, look_cons, dropB_nil, dropB_cons, inD_nil, inD_cons, inE_nil, inE_cons, or_t_l, or_f_l, Nat.reduceBEq, Nat.reduceDiv, Nat.reduceAdd, beq_self_eq_true, Bool.false_eq_true, Bool.or_false, ↓reduceIte, Nat.reduceEqDiff, List.cons_append, List.nil_append]
    simp -dsimp -implicitDefEqProofs only [go_sem, ↓reduceIte, Nat.reduceEqDiff, Nat.reduceLT, Nat.reduceAdd, Nat.reduceMul, Nat.reduceLeDiff, Nat.le_refl, Int.natCast_zero, Int.toNat_natCast, Int.reduceToNat, nlt_len]
    rw [List.take_length] at hI
    first
      | (simp_all [has]; done)
      | trace_state
theorem c_Index (xs : List Int) (x : Int) (h : xs.length ≤ 1048576) : Fn Try.prog 148 [eIs xs, eI x] true (fun r => ∃ n : Int, r = eI n ∧ decide (n ≥ 0) = has xs x) := by
  refine Fn.of_vc 19 [.tmp 4] Try.func148 rfl rfl rfl rfl rfl (of_decide_eq_true rfl) ?_
  simp -dsimp -implicitDefEqProofs only [go_sem, ↓reduceIte, Nat.reduceEqDiff, Nat.reduceLT, Nat.reduceAdd, Nat.reduceMul, Nat.reduceLeDiff, Nat.le_refl, Int.natCast_zero, Int.toNat_natCast, Int.reduceToNat]
  refine Later.up [0, 1, 7] [] [] xs.length (fun i => (xs.take i).all (fun y => !(y == x))) (fun i => [(8, eI i)]) (fun _ => []) (by simp) ?_ rfl (fun i hi hI => ?_) (fun hI => ?_)
  · simp -dsimp -implicitDefEqProofs only [go_sem, ↓reduceIte, Nat.reduceEqDiff, Nat.reduceLT, Nat.reduceAdd, Nat.reduceMul, Nat.reduceLeDiff, Nat.le_refl, Int.natCast_zero, Int.toNat_natCast, Int.reduceToNat]
  · simp -dsimp -implicitDefEqProofs only [pick_nil, pick_cons, look_nil, look_cons, dropB_nil, dropB_cons, inD_nil, inD_cons, inE_nil, inE_cons, or_t_l, or_f_l, Nat.reduceBEq, Nat.reduceDiv, Nat.reduceAdd, beq_self_eq_true, Bool.false_eq_true, Bool.or_false, ↓reduceIte, Nat.reduceEqDiff, List.cons_append, List.nil_append]
    have no : (!(xs[i] == x)) = false → has xs x = true := fun h => by simp [has, all_no (p := fun y => !(y == x)) hi h]
    have yes : (!(xs[i] == x)) = true → ((xs.take (i + 1)).all (fun y => !(y == x))) = true := fun h => by rw [all_take _ _ _ hi, hI]; simpa using h
    have gi := get_some hi
    simp -dsimp -implicitDefEqProofs only [go_sem, ↓reduceIte, Nat.reduceEqDiff, Nat.reduceLT, Nat.reduceAdd, Nat.reduceMul, Nat.reduceLeDiff, Nat.le_refl, Int.natCast_zero, Int.toNat_natCast, Int.reduceToNat, lt_len hi, get_some hi]
    repeat' first
      | (refine Br.intro (fun _ => ?_) (fun _ => ?_) <;> try simp -dsimp -implicitDefEqProofs only [go_sem, ↓reduceIte, Nat.reduceEqDiff, Nat.reduceLT, Nat.reduceAdd, Nat.reduceMul, Nat.reduceLeDiff, Nat.le_refl, Int.natCast_zero, Int.toNat_natCast, Int.reduceToNat, *])
      | (with_reducible refine And.intro ?_ ?_)
      | (refine Later.draw mixed rfl ?_; try simp -dsimp -implicitDefEqProofs only [go_sem, ↓reduceIte, Nat.reduceEqDiff, Nat.reduceLT, Nat.reduceAdd, Nat.reduceMul, Nat.reduceLeDiff, Nat.le_refl, Int.natCast_zero, Int.toNat_natCast, Int.reduceToNat, *])
    all_goals first
      | omega
      | (refine ⟨?_, ?_⟩ <;> omega)
      | rfl
      | (refine ⟨_, rfl, ?_⟩; rw [no]; · simp
         · clear no yes; simp_all)
      | (refine yes ?_; rw [BEq.comm, ‹(x == xs[i]) = false›]; rfl)
      | trace_state
  · simp -dsimp -implicitDefEqProofs only [pick_nil, pick_cons, look_nil, look_cons, dropB_nil, dropB_cons, inD_nil, inD_cons, inE_nil, inE_cons, or_t_l, or_f_l, Nat.reduceBEq, Nat.reduceDiv, Nat.reduceAdd, beq_self_eq_true, Bool.false_eq_true, Bool.or_false, ↓reduceIte, Nat.reduceEqDiff, List.cons_append, List.nil_append]
    simp -dsimp -implicitDefEqProofs only [go_sem, ↓reduceIte, Nat.reduceEqDiff, Nat.reduceLT, Nat.reduceAdd, Nat.reduceMul, Nat.reduceLeDiff, Nat.le_refl, Int.natCast_zero, Int.toNat_natCast, Int.reduceToNat, nlt_len]
    rw [List.take_length] at hI
    exact ⟨_, rfl, by rw [has, hI]; rfl⟩
theorem c_Contains (xs : List Int) (x : Int) (h : xs.length ≤ 1048576) : Fn Try.prog 128 [eIs xs, eI x] true (· = eB (has xs x)) := by
  refine Fn.of_vcN 9 [.tmp 4] Try.func128 rfl rfl rfl rfl rfl (of_decide_eq_true rfl) ?_
  simp -dsimp -implicitDefEqProofs only [go_sem, ↓reduceIte, Nat.reduceEqDiff, Nat.reduceLT, Nat.reduceAdd, Nat.reduceMul, Nat.reduceLeDiff, Nat.le_refl, Int.natCast_zero, Int.toNat_natCast, Int.reduceToNat]
  refine sCallT_any (c_Index xs x h) ?_
  rintro _ ⟨n, rfl, hn⟩
  simp -dsimp -implicitDefEqProofs only [go_sem, ↓reduceIte, Nat.reduceEqDiff, Nat.reduceLT, Nat.reduceAdd, Nat.reduceMul, Nat.reduceLeDiff, Nat.le_refl, Int.natCast_zero, Int.toNat_natCast, Int.reduceToNat]
  rw [← hn]
end Go.Vc

/-
  Contracts of the functions on access tables and systems.
-/
set_option linter.unusedVariables false
set_option linter.unusedSimpArgs false
set_option linter.unnecessarySimpa false
namespace Go.Vc
open Go.Proofs
set_option maxRecDepth 100000
abbrev eSy (m : MkM) (t : List (List Int)) : AV := .agg [eI m.chambers, eI m.depths, eI m.step, eI m.same, eI m.least, eIss t]
def rowOk (n : Nat) (r : List Int) : Bool := (r.length == n) && decide (1 ≤ r.length) && decide (r.length ≤ 12) && r.all fun x => isIn x 0 1
def isTb (t : List (List Int)) : Bool := decide (1 ≤ t.length) && decide (t.length ≤ 10) && t.all (rowOk (t.getD 0 []).length)
theorem isTb_no {t : List (List Int)} {i : Nat} (hi : i < t.length) (h : rowOk (t.getD 0 []).length t[i] = false) : isTb t = false := by
  rw [isTb, all_no hi h]; simp
theorem isTb_num {t : List (List Int)} (h : isTb t = true) : 1 ≤ t.length ∧ t.length ≤ 10 ∧ 1 ≤ (t.getD 0 []).length ∧ (t.getD 0 []).length ≤ 12 ∧ ∀ i (hi : i < t.length), t[i].length = (t.getD 0 []).length := by
  simp only [isTb, Bool.and_eq_true, decide_eq_true_eq] at h
  have hr : ∀ i (hi : i < t.length), rowOk (t.getD 0 []).length t[i] = true := fun i hi => List.all_eq_true.1 h.2 _ (List.getElem_mem hi)
  have h0 := hr 0 (by omega)
  have e : t.getD 0 [] = t[0]'(by omega) := by simp [List.getD_eq_getElem?_getD, show 0 < t.length by omega]
  simp only [rowOk, Bool.and_eq_true, decide_eq_true_eq, beq_iff_eq] at h0 hr
  rw [← e] at h0
  exact ⟨h.1.1, h.1.2, h0.1.1.2, h0.1.2, fun i hi => (hr i hi).1.1.1⟩
theorem c_iIsTable (t : List (List Int)) (h : t.length ≤ 1048576) (h2 : ∀ x ∈ t, x.length ≤ 1048576) : Fn Try.prog 70 [eIss t] true (· = eB (isTb t)) := by
  refine Fn.of_vcN 42 [.tmp 2] Try.func70 rfl rfl rfl rfl rfl (of_decide_eq_true rfl) ?_
  simp -dsimp -implicitDefEqProofs only [go_sem, ↓reduceIte, Nat.reduceEqDiff, Nat.reduceLT, Nat.reduceAdd, Nat.reduceMul, Nat.reduceLeDiff, Nat.le_refl, Int.natCast_zero, Int.toNat_natCast, Int.reduceToNat]
  refine Later.up [0, 5, 6] [12, 16, 20, 25, 30] [] t.length (fun i => (t.take i).all (rowOk (t.getD 0 []).length)) (fun i => [(7, eI i)]) (fun _ => []) (by simp) ?_ rfl (fun i hi hI => ?_) (fun hI => ?_)
  · simp -dsimp -implicitDefEqProofs only [go_sem, ↓reduceIte, Nat.reduceEqDiff, Nat.reduceLT, Nat.reduceAdd, Nat.reduceMul, Nat.reduceLeDiff, Nat.le_refl, Int.natCast_zero, Int.toNat_natCast, Int.reduceToNat]
  · have h00 : 0 < t.length := by omega
    have g0 := get_some h00
    have gd : t.getD 0 [] = t[0] := by simp [List.getD_eq_getElem?_getD, h00]
    have hx := h2 t[i] (List.getElem_mem hi)
    have hx0 := h2 t[0] (List.getElem_mem h00)
    have gi := get_some hi
    have li := lt_len hi
    have no : rowOk t[0].length t[i] = false → isTb t = false := fun h => isTb_no hi (by rw [gd]; exact h)
    have yes : rowOk t[0].length t[i] = true → (t.take (i + 1)).all (rowOk (t.getD 0 []).length) = true := fun h => by rw [all_take _ _ _ hi, hI, gd, h]; rfl
    clear gd
    simp -dsimp -implicitDefEqProofs only [pick_nil, pick_cons, look_nil, look_cons, dropB_nil, dropB_cons, inD_nil, inD_cons, inE_nil, inE_cons, or_t_l, or_f_l, Nat.reduceBEq, Nat.reduceDiv, Nat.reduceAdd, beq_self_eq_true, Bool.false_eq_true, Bool.or_false, ↓reduceIte, Nat.reduceEqDiff, List.cons_append, List.nil_append]
    simp -dsimp -implicitDefEqProofs only [go_sem, ↓reduceIte, Nat.reduceEqDiff, Nat.reduceLT, Nat.reduceAdd, Nat.reduceMul, Nat.reduceLeDiff, Nat.le_refl, Int.natCast_zero, Int.toNat_natCast, Int.reduceToNat, li, gi, g0]
    repeat' first
      | (refine Br.intro (fun _ => ?_) (fun _ => ?_) <;> try simp -dsimp -implicitDefEqProofs only [go_sem, ↓reduceIte, Nat.reduceEqDiff, Nat.reduceLT, Nat.reduceAdd, Nat.reduceMul, Nat.reduceLeDiff, Nat.le_refl, Int.natCast_zero, Int.toNat_natCast, Int.reduceToNat, *])
      | (with_reducible refine And.intro ?_ ?_)
      | (refine sCallT_one (c_allWithin t[i] 0 1 (by omega)) ?_; try simp -dsimp -implicitDefEqProofs only [go_sem, ↓reduceIte, Nat.reduceEqDiff, Nat.reduceLT, Nat.reduceAdd, Nat.reduceMul, Nat.reduceLeDiff, Nat.le_refl, Int.natCast_zero, Int.toNat_natCast, Int.reduceToNat, *])
    all_goals first
      | omega
      | (refine ⟨?_, ?_⟩ <;> omega)
      | rfl
      | (simp; done)
      | (rw [no]; clear no yes; simp_all [rowOk]; done) | (rw [no]; clear no yes; simp_all [rowOk]; omega) | (refine yes ?_; clear no yes; simp_all [rowOk]; done) | (refine yes ?_; clear no yes; simp_all [rowOk]; omega)
      | trace_state
  · simp -dsimp -implicitDefEqProofs only [pick_nil, pick_cons, look_nil, look_cons, dropB_nil, dropB_cons, inD_nil, inD_cons, inE_nil, inE_cons, or_t_l, or_f_l, Nat.reduceBEq, Nat.reduceDiv, Nat.reduceAdd, beq_self_eq_true, Bool.false_eq_true, Bool.or_false, ↓reduceIte, Nat.reduceEqDiff, List.cons_append, List.nil_append]
    simp -dsimp -implicitDefEqProofs only [go_sem, ↓reduceIte, Nat.reduceEqDiff, Nat.reduceLT, Nat.reduceAdd, Nat.reduceMul, Nat.reduceLeDiff, Nat.le_refl, Int.natCast_zero, Int.toNat_natCast, Int.reduceToNat, nlt_len]
    rw [List.take_length] at hI
    repeat' first
      | (refine Br.intro (fun _ => ?_) (fun _ => ?_) <;> try simp -dsimp -implicitDefEqProofs only [go_sem, ↓reduceIte, Nat.reduceEqDiff, Nat.reduceLT, Nat.reduceAdd, Nat.reduceMul, Nat.reduceLeDiff, Nat.le_refl, Int.natCast_zero, Int.toNat_natCast, Int.reduceToNat, *])
      | (with_reducible refine And.intro ?_ ?_)
    all_goals first
      | omega
      | (simp_all [isTb]; done)
      | (rename_i hx
         have h3 : 1 ≤ t.length := by have := of_decide_eq_true hx; omega
         have h4 : decide ((t.length : Int) ≤ 10) = decide (t.length ≤ 10) := by rw [decide_eq_decide]; omega
         rw [isTb, hI, decide_eq_true h3, h4, Bool.true_and, Bool.and_true])
      | (rename_i hx
         have h3 : ¬ 1 ≤ t.length := by have := of_decide_eq_false hx; omega
         rw [isTb, decide_eq_false h3]; rfl)
      | trace_state
theorem c_sIsTable (t : List (List Int)) (h : t.length ≤ 1048576) (h2 : ∀ x ∈ t, x.length ≤ 1048576) : Fn Try.prog 72 [eIss t] true (· = eB (isTb t)) := by
  refine Fn.of_vcN 52 [.tmp 2] Try.func72 rfl rfl rfl rfl rfl (of_decide_eq_true rfl) ?_
  simp -dsimp -implicitDefEqProofs only [go_sem, ↓reduceIte, Nat.reduceEqDiff, Nat.reduceLT, Nat.reduceAdd, Nat.reduceMul, Nat.reduceLeDiff, Nat.le_refl, Int.natCast_zero, Int.toNat_natCast, Int.reduceToNat]
  repeat' first
    | (refine Br.intro (fun _ => ?_) (fun _ => ?_) <;> try simp -dsimp -implicitDefEqProofs only [go_sem, ↓reduceIte, Nat.reduceEqDiff, Nat.reduceLT, Nat.reduceAdd, Nat.reduceMul, Nat.reduceLeDiff, Nat.le_refl, Int.natCast_zero, Int.toNat_natCast, Int.reduceToNat, *])
    | (with_reducible refine And.intro ?_ ?_)
    | (refine sCallT_one (c_l01In _ _ _) ?_; try simp -dsimp -implicitDefEqProofs only [go_sem, ↓reduceIte, Nat.reduceEqDiff, Nat.reduceLT, Nat.reduceAdd, Nat.reduceMul, Nat.reduceLeDiff, Nat.le_refl, Int.natCast_zero, Int.toNat_natCast, Int.reduceToNat, *])
  all_goals try (first | omega | (simp_all [isTb, isIn]; omega))
  rename_i hl
  refine Later.up [0] [11, 19, 23, 30, 31, 39, 50] [] t.length (fun i => (t.take i).all (rowOk (t.getD 0 []).length)) (fun i => [(3, eI i)]) (fun _ => []) (by simp) ?_ rfl (fun i hi hI => ?_) (fun hI => ?_)
  · simp -dsimp -implicitDefEqProofs only [go_sem, ↓reduceIte, Nat.reduceEqDiff, Nat.reduceLT, Nat.reduceAdd, Nat.reduceMul, Nat.reduceLeDiff, Nat.le_refl, Int.natCast_zero, Int.toNat_natCast, Int.reduceToNat]
  · have h00 : 0 < t.length := by omega
    have g0 := get_some h00
    have gd : t.getD 0 [] = t[0] := by simp [List.getD_eq_getElem?_getD, h00]
    have hx := h2 t[i] (List.getElem_mem hi)
    have hx0 := h2 t[0] (List.getElem_mem h00)
    have gi := get_some hi
    have li := lt_len hi
    have no : rowOk t[0].length t[i] = false → isTb t = false := fun h => isTb_no hi (by rw [gd]; exact h)
    have yes : rowOk t[0].length t[i] = true → (t.take (i + 1)).all (rowOk (t.getD 0 []).length) = true := fun h => by rw [all_take _ _ _ hi, hI, gd, h]; rfl
    clear gd hI
    simp -dsimp -implicitDefEqProofs only [pick_nil, pick_cons, look_nil, look_cons, dropB_nil, dropB_cons, inD_nil, inD_cons, inE_nil, inE_cons, or_t_l, or_f_l, Nat.reduceBEq, Nat.reduceDiv, Nat.reduceAdd, beq_self_eq_true, Bool.false_eq_true, Bool.or_false, ↓reduceIte, Nat.reduceEqDiff, List.cons_append, List.nil_append]
    simp -dsimp -implicitDefEqProofs only [go_sem, ↓reduceIte, Nat.reduceEqDiff, Nat.reduceLT, Nat.reduceAdd, Nat.reduceMul, Nat.reduceLeDiff, Nat.le_refl, Int.natCast_zero, Int.toNat_natCast, Int.reduceToNat, li, gi, g0]
    repeat' first
      | (refine Br.intro (fun _ => ?_) (fun _ => ?_) <;> try simp -dsimp -implicitDefEqProofs only [go_sem, ↓reduceIte, Nat.reduceEqDiff, Nat.reduceLT, Nat.reduceAdd, Nat.reduceMul, Nat.reduceLeDiff, Nat.le_refl, Int.natCast_zero, Int.toNat_natCast, Int.reduceToNat, *])
      | (with_reducible refine And.intro ?_ ?_)
      | (refine Later.draw mixed rfl ?_; try simp -dsimp -implicitDefEqProofs only [go_sem, ↓reduceIte, Nat.reduceEqDiff, Nat.reduceLT, Nat.reduceAdd, Nat.reduceMul, Nat.reduceLeDiff, Nat.le_refl, Int.natCast_zero, Int.toNat_natCast, Int.reduceToNat, *])
      | (refine sCallT_one (c_l01In _ _ _) ?_; try simp -dsimp -implicitDefEqProofs only [go_sem, ↓reduceIte, Nat.reduceEqDiff, Nat.reduceLT, Nat.reduceAdd, Nat.reduceMul, Nat.reduceLeDiff, Nat.le_refl, Int.natCast_zero, Int.toNat_natCast, Int.reduceToNat, *])
      | (refine sCallX_one (c_l01In _ _ _) ?_; try simp -dsimp -implicitDefEqProofs only [go_sem, ↓reduceIte, Nat.reduceEqDiff, Nat.reduceLT, Nat.reduceAdd, Nat.reduceMul, Nat.reduceLeDiff, Nat.le_refl, Int.natCast_zero, Int.toNat_natCast, Int.reduceToNat, *])
    all_goals try (first | omega | (refine ⟨?_, ?_⟩ <;> omega) | rfl | (simp; done) | (rw [no]; clear no yes; simp_all [rowOk, isIn]; done) | (rw [no]; clear no yes; simp_all [rowOk, isIn]; omega) | (refine yes ?_; clear no yes; simp_all [rowOk, isIn]; done) | (refine yes ?_; clear no yes; simp_all [rowOk, isIn]; omega))
    refine Later.up [0, 3] [39, 50] [] t[i].length (fun j => (t[i].take j).all (fun x => isIn x 0 1)) (fun j => [(4, eI j)]) (fun _ => []) (by simp) ?_ rfl (fun j hj hJ => ?_) (fun hJ => ?_)
    · simp -dsimp -implicitDefEqProofs only [go_sem, ↓reduceIte, Nat.reduceEqDiff, Nat.reduceLT, Nat.reduceAdd, Nat.reduceMul, Nat.reduceLeDiff, Nat.le_refl, Int.natCast_zero, Int.toNat_natCast, Int.reduceToNat]
    · have gj := get_some hj
      have lj := lt_len hj
      have no1 : isIn t[i][j] 0 1 = false → isTb t = false := fun h => no (by rw [rowOk, all_no (p := fun x => isIn x 0 1) hj h]; simp)
      have yes1 : isIn t[i][j] 0 1 = true → (t[i].take (j + 1)).all (fun x => isIn x 0 1) = true := fun h => by rw [all_take _ _ _ hj, hJ, h]; rfl
      clear no yes
      simp -dsimp -implicitDefEqProofs only [pick_nil, pick_cons, look_nil, look_cons, dropB_nil, dropB_cons, inD_nil, inD_cons, inE_nil, inE_cons, or_t_l, or_f_l, Nat.reduceBEq, Nat.reduceDiv, Nat.reduceAdd, beq_self_eq_true, Bool.false_eq_true, Bool.or_false, ↓reduceIte, Nat.reduceEqDiff, List.cons_append, List.nil_append]
      simp -dsimp -implicitDefEqProofs only [go_sem, ↓reduceIte, Nat.reduceEqDiff, Nat.reduceLT, Nat.reduceAdd, Nat.reduceMul, Nat.reduceLeDiff, Nat.le_refl, Int.natCast_zero, Int.toNat_natCast, Int.reduceToNat, li, gi, gj, lj]
      repeat' first
        | (refine Br.intro (fun _ => ?_) (fun _ => ?_) <;> try simp -dsimp -implicitDefEqProofs only [go_sem, ↓reduceIte, Nat.reduceEqDiff, Nat.reduceLT, Nat.reduceAdd, Nat.reduceMul, Nat.reduceLeDiff, Nat.le_refl, Int.natCast_zero, Int.toNat_natCast, Int.reduceToNat, *])
        | (with_reducible refine And.intro ?_ ?_)
        | (refine sCallT_one (c_l01In _ _ _) ?_; try simp -dsimp -implicitDefEqProofs only [go_sem, ↓reduceIte, Nat.reduceEqDiff, Nat.reduceLT, Nat.reduceAdd, Nat.reduceMul, Nat.reduceLeDiff, Nat.le_refl, Int.natCast_zero, Int.toNat_natCast, Int.reduceToNat, *])
      all_goals first
        | omega
        | (refine ⟨?_, ?_⟩ <;> omega)
        | rfl
        | (simp; done)
        | (rw [no1]; clear no1 yes1; simp_all; done)
        | (refine yes1 ?_; clear no1 yes1; simp_all; done)
        | trace_state
    · simp -dsimp -implicitDefEqProofs only [pick_nil, pick_cons, look_nil, look_cons, dropB_nil, dropB_cons, inD_nil, inD_cons, inE_nil, inE_cons, or_t_l, or_f_l, Nat.reduceBEq, Nat.reduceDiv, Nat.reduceAdd, beq_self_eq_true, Bool.false_eq_true, Bool.or_false, ↓reduceIte, Nat.reduceEqDiff, List.cons_append, List.nil_append]
      rw [List.take_length] at hJ
      simp -dsimp -implicitDefEqProofs only [go_sem, ↓reduceIte, Nat.reduceEqDiff, Nat.reduceLT, Nat.reduceAdd, Nat.reduceMul, Nat.reduceLeDiff, Nat.le_refl, Int.natCast_zero, Int.toNat_natCast, Int.reduceToNat, li, gi, nlt_len]
      repeat' first
        | (refine Br.intro (fun _ => ?_) (fun _ => ?_) <;> try simp -dsimp -implicitDefEqProofs only [go_sem, ↓reduceIte, Nat.reduceEqDiff, Nat.reduceLT, Nat.reduceAdd, Nat.reduceMul, Nat.reduceLeDiff, Nat.le_refl, Int.natCast_zero, Int.toNat_natCast, Int.reduceToNat, *])
        | (with_reducible refine And.intro ?_ ?_)
      all_goals first
        | omega
        | (refine ⟨?_, ?_⟩ <;> omega)
        | rfl
        | (simp; done)
        | (refine yes ?_; clear no yes; simp_all [rowOk, isIn]; done)
        | (refine yes ?_; clear no yes; simp_all [rowOk, isIn]; omega)
        | trace_state
  · simp -dsimp -implicitDefEqProofs only [pick_nil, pick_cons, look_nil, look_cons, dropB_nil, dropB_cons, inD_nil, inD_cons, inE_nil, inE_cons, or_t_l, or_f_l, Nat.reduceBEq, Nat.reduceDiv, Nat.reduceAdd, beq_self_eq_true, Bool.false_eq_true, Bool.or_false, ↓reduceIte, Nat.reduceEqDiff, List.cons_append, List.nil_append]
    simp -dsimp -implicitDefEqProofs only [go_sem, ↓reduceIte, Nat.reduceEqDiff, Nat.reduceLT, Nat.reduceAdd, Nat.reduceMul, Nat.reduceLeDiff, Nat.le_refl, Int.natCast_zero, Int.toNat_natCast, Int.reduceToNat, nlt_len]
    rw [List.take_length] at hI
    first
      | (simp_all [isTb, isIn]; done)
      | (simp_all [isTb, isIn]; omega)
      | trace_state
def doorOpen (t : List (List Int)) (k : Nat) : Bool := t.any fun r => r.getD k 0 == 1
def doorsOpen (t : List (List Int)) : Bool := (List.range (t.getD 0 []).length).all (doorOpen t)
def isSy (m : MkM) (t : List (List Int)) : Bool := isMk m && isTb t && doorsOpen t
theorem isSy_num {m : MkM} {t : List (List Int)} (h : isSy m t = true) : 1 ≤ t.length ∧ t.length ≤ 10 ∧ 1 ≤ (t.getD 0 []).length ∧ (t.getD 0 []).length ≤ 12 ∧ ∀ i (hi : i < t.length), t[i].length = (t.getD 0 []).length := by
  simp only [isSy, Bool.and_eq_true] at h
  exact isTb_num h.1.2
theorem any_take {α : Type} (p : α → Bool) (xs : List α) (i : Nat) (h : i < xs.length) : (xs.take (i + 1)).any p = ((xs.take i).any p || p xs[i]) := by
  rw [List.take_succ_eq_append_getElem h, List.any_append]; simp
def rowsOn (t : List (List Int)) (k : Nat) : List Int := flt (fun i => (t.getD i []).getD k 0 == 1) t.length
theorem rowsOn_nil (t : List (List Int)) (k : Nat) : decide (((rowsOn t k).length : Int) = 0) = !doorOpen t k := by
  have key : ∀ n, n ≤ t.length → ((flt (fun i => (t.getD i []).getD k 0 == 1) n) = [] ↔ (t.take n).any (fun r => r.getD k 0 == 1) = false) := by
    intro n
    induction n with
    | zero => intro _; simp [flt_zero]
    | succ n ih =>
      intro hn
      have h1 := ih (by omega)
      have e : t.getD n [] = t[n] := by simp [List.getD_eq_getElem?_getD, show n < t.length by omega]
      rw [flt_succ, any_take _ _ _ (show n < t.length by omega), Bool.or_eq_false_iff, ← h1, e]
      cases hc : (t[n].getD k 0 == 1) <;> simp
  have h1 := key t.length (Nat.le_refl _)
  rw [List.take_length] at h1
  have h2 : (((rowsOn t k).length : Int) = 0) ↔ rowsOn t k = [] := by rw [← List.length_eq_zero_iff]; omega
  cases hd : doorOpen t k with
  | true =>
    rw [Bool.not_true]
    refine decide_eq_false fun e => ?_
    have := h1.1 (h2.1 e)
    rw [show doorOpen t k = t.any fun r => r.getD k 0 == 1 from rfl, this] at hd; cases hd
  | false =>
    rw [Bool.not_false]
    exact decide_eq_true (h2.2 (h1.2 hd))
end Go.Vc

/-
  Contracts: keys of a maker; desks.
-/
set_option linter.unusedVariables false
set_option linter.unusedSimpArgs false
set_option linter.unnecessarySimpa false
namespace Go.Vc
open Go.Proofs
set_option maxRecDepth 100000
set_option maxHeartbeats 2000000
attribute [go_sem] Option.map_none Nat.sub_zero
def absN (x : Int) : Int := if x < -x then -x else x
def runAt (c : List Int) : Nat → Nat
  | 0 => 1
  | i + 1 => if c.getD (i + 1) 0 = c.getD i 0 then runAt c i + 1 else 1
theorem runAt_spec (c : List Int) (i : Nat) : 1 ≤ runAt c i ∧ runAt c i ≤ i + 1 ∧ (∀ j, j < runAt c i → c.getD (i - j) 0 = c.getD i 0) ∧ (runAt c i < i + 1 → c.getD (i - runAt c i) 0 ≠ c.getD i 0) := by
  induction i with
  | zero => exact ⟨Nat.le_refl _, Nat.le_refl _, fun j hj => by simp [runAt] at hj; subst hj; rfl, fun h => by simp [runAt] at h⟩
  | succ i ih =>
    obtain ⟨h1, h2, h3, h4⟩ := ih
    simp only [runAt]
    split
    · rename_i e
      refine ⟨by omega, by omega, fun j hj => ?_, fun hj => ?_⟩
      · rw [e]
        cases j with
        | zero => exact e
        | succ j => rw [show i + 1 - (j + 1) = i - j by omega]; exact h3 j (by omega)
      · rw [e, show i + 1 - (runAt c i + 1) = i - runAt c i by omega]; exact h4 (by omega)
    · rename_i e
      refine ⟨by omega, by omega, fun j hj => ?_, fun _ => ?_⟩
      · have : j = 0 := by omega
        subst this; rfl
      · show c.getD i 0 ≠ _
        exact fun h => e h.symm
theorem runAt_take (c : List Int) (n i : Nat) (h : i < n) : runAt (c.take n) i = runAt c i := by
  have g : ∀ j, j < n → (c.take n).getD j 0 = c.getD j 0 := fun j hj => by simp [List.getD_eq_getElem?_getD, List.getElem?_take, hj]
  induction i with
  | zero => rfl
  | succ i ih => simp only [runAt]; rw [g (i + 1) h, g i (by omega), ih (by omega)]
def runTo (c : List Int) (i : Nat) : Nat := if i = 0 then 0 else runAt c (i - 1)
def mostTo (c : List Int) : Nat → Nat
  | 0 => 0
  | i + 1 => if mostTo c i < runAt c i then runAt c i else mostTo c i
theorem mostTo_le (c : List Int) (s : Int) (hs : 0 ≤ s) (n : Nat) : decide ((mostTo c n : Int) > s) = !((List.range n).all fun i => decide ((runAt c i : Int) ≤ s)) := by
  induction n with
  | zero => simp [mostTo]; omega
  | succ n ih =>
    rw [range_all_succ, Bool.not_and, ← ih]
    simp only [mostTo]
    split
    · by_cases h : (runAt c n : Int) ≤ s
      · rw [decide_eq_true h, decide_eq_false (show ¬ (mostTo c n : Int) > s by omega), decide_eq_false (show ¬ (runAt c n : Int) > s by omega)]; rfl
      · rw [decide_eq_false h, decide_eq_true (show (runAt c n : Int) > s by omega)]; simp
    · by_cases h : (runAt c n : Int) ≤ s
      · rw [decide_eq_true h]; simp
      · rw [decide_eq_false h, decide_eq_true (show (mostTo c n : Int) > s by omega)]; simp
def stepAt (m : MkM) (c : List Int) (i : Nat) : Bool := i == 0 || decide (absN (c.getD i 0 - c.getD (i - 1) 0) ≤ m.step)
def kindsTo (c : List Int) (n : Nat) : Nat := ((List.range n).filter fun i => !has (c.take i) (c.getD i 0)).length
theorem kindsTo_succ (c : List Int) (i : Nat) (h : i < c.length) : (kindsTo c (i + 1) : Int) = if (!has (c.take i) c[i]) = true then (kindsTo c i : Int) + 1 else kindsTo c i := by
  have g : c.getD i 0 = c[i] := by simp [List.getD_eq_getElem?_getD, h]
  rw [kindsTo, List.range_succ, List.filter_append, List.filter_cons, g]
  split <;> simp [kindsTo]
theorem kindsTo_le (c : List Int) (i : Nat) : kindsTo c i ≤ i := by
  rw [kindsTo]; exact Nat.le_trans (List.length_filter_le _ _) (by simp)
def fault (m : MkM) (c : List Int) : Int :=
  if (c.length : Int) ≠ m.chambers then 1
  else if (c.all fun x => isIn x 0 (m.depths - 1)) = false then 2
  else if ((List.range c.length).all (stepAt m c)) = false then 3
  else if ((List.range c.length).all fun i => decide ((runAt c i : Int) ≤ m.same)) = false then 4
  else if (kindsTo c c.length : Int) < m.least then 5 else 0
attribute [irreducible] runAt mostTo kindsTo
theorem c_l01Abs (x : Int) (h : -1000 ≤ x ∧ x ≤ 1000) : Fn Try.prog 180 [eI x] true (· = eI (absN x)) := by
  refine Fn.of_vcN 7 [.tmp 2] Try.func180 rfl rfl rfl rfl rfl (of_decide_eq_true rfl) ?_
  simp -dsimp -implicitDefEqProofs only [go_sem, ↓reduceIte, Nat.reduceEqDiff, Nat.reduceLT, Nat.reduceAdd, Nat.reduceMul, Nat.reduceLeDiff, Nat.le_refl, Int.natCast_zero, Int.toNat_natCast, Int.reduceToNat]
  repeat' first
    | (refine Br.intro (fun _ => ?_) (fun _ => ?_) <;> try simp -dsimp -implicitDefEqProofs only [go_sem, ↓reduceIte, Nat.reduceEqDiff, Nat.reduceLT, Nat.reduceAdd, Nat.reduceMul, Nat.reduceLeDiff, Nat.le_refl, Int.natCast_zero, Int.toNat_natCast, Int.reduceToNat, *])
    | (with_reducible refine And.intro ?_ ?_)
  all_goals first | omega | (refine ⟨?_, ?_⟩ <;> omega) | rfl | (simp; done) | (simp_all [absN]; done) | (simp_all [absN]; omega) | (simp_all [absN]; split <;> simp_all <;> omega) | trace_state
theorem c_l02Kinds (c : List Int) (h : c.length ≤ 1048576) : Fn Try.prog 178 [eIs c] true (· = eI (kindsTo c c.length)) := by
  refine Fn.of_vcN 23 [.tmp 2] Try.func178 rfl rfl rfl rfl rfl (of_decide_eq_true rfl) ?_
  simp -dsimp -implicitDefEqProofs only [go_sem, ↓reduceIte, Nat.reduceEqDiff, Nat.reduceLT, Nat.reduceAdd, Nat.reduceMul, Nat.reduceLeDiff, Nat.le_refl, Int.natCast_zero, Int.toNat_natCast, Int.reduceToNat]
  refine Later.up [0] [7, 18] [] c.length (fun _ => True) (fun i => [(4, eI i), (3, eI (kindsTo c i))]) (fun _ => []) trivial ?_ rfl (fun i hi _ => ?_) (fun _ => ?_)
  · simp -dsimp -implicitDefEqProofs only [go_sem, ↓reduceIte, Nat.reduceEqDiff, Nat.reduceLT, Nat.reduceAdd, Nat.reduceMul, Nat.reduceLeDiff, Nat.le_refl, Int.natCast_zero, Int.toNat_natCast, Int.reduceToNat]
    all_goals first | (simp [kindsTo]; done) | trace_state
  · have gi := get_some hi
    have li := lt_len hi
    have hs := kindsTo_succ c i hi
    have hle := kindsTo_le c i
    simp -dsimp -implicitDefEqProofs only [pick_nil, pick_cons, look_nil, look_cons, dropB_nil, dropB_cons, inD_nil, inD_cons, inE_nil, inE_cons, or_t_l, or_f_l, Nat.reduceBEq, Nat.reduceDiv, Nat.reduceAdd, beq_self_eq_true, Bool.false_eq_true, Bool.or_false, ↓reduceIte, Nat.reduceEqDiff, List.cons_append, List.nil_append]
    rw [hs]
    clear hs
    simp -dsimp -implicitDefEqProofs only [go_sem, ↓reduceIte, Nat.reduceEqDiff, Nat.reduceLT, Nat.reduceAdd, Nat.reduceMul, Nat.reduceLeDiff, Nat.le_refl, Int.natCast_zero, Int.toNat_natCast, Int.reduceToNat, li, gi]
    repeat' first
      | (refine Br.intro (fun _ => ?_) (fun _ => ?_) <;> try simp -dsimp -implicitDefEqProofs only [go_sem, ↓reduceIte, Nat.reduceEqDiff, Nat.reduceLT, Nat.reduceAdd, Nat.reduceMul, Nat.reduceLeDiff, Nat.le_refl, Int.natCast_zero, Int.toNat_natCast, Int.reduceToNat, *])
      | (with_reducible refine And.intro ?_ ?_)
      | (refine Later.draw mixed rfl ?_; try simp -dsimp -implicitDefEqProofs only [go_sem, ↓reduceIte, Nat.reduceEqDiff, Nat.reduceLT, Nat.reduceAdd, Nat.reduceMul, Nat.reduceLeDiff, Nat.le_refl, Int.natCast_zero, Int.toNat_natCast, Int.reduceToNat, *])
      | (rw [← List.map_take]; refine sCallX_one (c_l01Has (c.take i) c[i] (by simp; omega)) ?_; try simp -dsimp -implicitDefEqProofs only [go_sem, ↓reduceIte, Nat.reduceEqDiff, Nat.reduceLT, Nat.reduceAdd, Nat.reduceMul, Nat.reduceLeDiff, Nat.le_refl, Int.natCast_zero, Int.toNat_natCast, Int.reduceToNat, *])
    all_goals first
      | omega | (refine ⟨?_, ?_⟩ <;> omega) | (simp; done) | (simp; omega)
      | rfl
      | (simp_all; done)
      | (simp_all; omega)
      | trace_state
  · have hle := kindsTo_le c c.length
    simp -dsimp -implicitDefEqProofs only [pick_nil, pick_cons, look_nil, look_cons, dropB_nil, dropB_cons, inD_nil, inD_cons, inE_nil, inE_cons, or_t_l, or_f_l, Nat.reduceBEq, Nat.reduceDiv, Nat.reduceAdd, beq_self_eq_true, Bool.false_eq_true, Bool.or_false, ↓reduceIte, Nat.reduceEqDiff, List.cons_append, List.nil_append]
    simp -dsimp -implicitDefEqProofs only [go_sem, ↓reduceIte, Nat.reduceEqDiff, Nat.reduceLT, Nat.reduceAdd, Nat.reduceMul, Nat.reduceLeDiff, Nat.le_refl, Int.natCast_zero, Int.toNat_natCast, Int.reduceToNat, nlt_len]
end Go.Vc

/-
  Contracts: whether cuts are a key of a maker.
-/
set_option linter.unusedVariables false
set_option linter.unusedSimpArgs false
set_option linter.unnecessarySimpa false
namespace Go.Vc
open Go.Proofs
set_option maxRecDepth 100000
set_option maxHeartbeats 2000000
theorem c_l02CutsK (m : MkM) (c : List Int) (hm : isMk m = true) (h : c.length ≤ 1048576) : Fn Try.prog 132 [eMk m, eIs c] true (· = eB ((c.all fun x => isIn x 0 (m.depths - 1)) && ((c.length : Int) == m.chambers))) := by
  refine Fn.of_vcN 26 [.tmp 4] Try.func132 rfl rfl rfl rfl rfl (of_decide_eq_true rfl) ?_
  have hb := isMk_num hm
  simp -dsimp -implicitDefEqProofs only [go_sem, ↓reduceIte, Nat.reduceEqDiff, Nat.reduceLT, Nat.reduceAdd, Nat.reduceMul, Nat.reduceLeDiff, Nat.le_refl, Int.natCast_zero, Int.toNat_natCast, Int.reduceToNat]
  refine Later.up [1, 2] [8, 19] [] c.length (fun i => (c.take i).all (fun x => isIn x 0 (m.depths - 1))) (fun i => [(5, eI i)]) (fun _ => []) (by simp) ?_ rfl (fun i hi hI => ?_) (fun hI => ?_)
  · simp -dsimp -implicitDefEqProofs only [go_sem, ↓reduceIte, Nat.reduceEqDiff, Nat.reduceLT, Nat.reduceAdd, Nat.reduceMul, Nat.reduceLeDiff, Nat.le_refl, Int.natCast_zero, Int.toNat_natCast, Int.reduceToNat]
  · have gi := get_some hi
    have li := lt_len hi
    have no : isIn c[i] 0 (m.depths - 1) = false → (c.all fun x => isIn x 0 (m.depths - 1)) = false := fun h => all_no (p := fun x => isIn x 0 (m.depths - 1)) hi h
    have yes : isIn c[i] 0 (m.depths - 1) = true → (c.take (i + 1)).all (fun x => isIn x 0 (m.depths - 1)) = true := fun h => by rw [all_take _ _ _ hi, hI, h]; rfl
    simp -dsimp -implicitDefEqProofs only [pick_nil, pick_cons, look_nil, look_cons, dropB_nil, dropB_cons, inD_nil, inD_cons, inE_nil, inE_cons, or_t_l, or_f_l, Nat.reduceBEq, Nat.reduceDiv, Nat.reduceAdd, beq_self_eq_true, Bool.false_eq_true, Bool.or_false, ↓reduceIte, Nat.reduceEqDiff, List.cons_append, List.nil_append]
    simp -dsimp -implicitDefEqProofs only [go_sem, ↓reduceIte, Nat.reduceEqDiff, Nat.reduceLT, Nat.reduceAdd, Nat.reduceMul, Nat.reduceLeDiff, Nat.le_refl, Int.natCast_zero, Int.toNat_natCast, Int.reduceToNat, li, gi]
    repeat' first
      | (refine Br.intro (fun _ => ?_) (fun _ => ?_) <;> try simp -dsimp -implicitDefEqProofs only [go_sem, ↓reduceIte, Nat.reduceEqDiff, Nat.reduceLT, Nat.reduceAdd, Nat.reduceMul, Nat.reduceLeDiff, Nat.le_refl, Int.natCast_zero, Int.toNat_natCast, Int.reduceToNat, *])
      | (with_reducible refine And.intro ?_ ?_)
      | (refine Later.draw mixed rfl ?_; try simp -dsimp -implicitDefEqProofs only [go_sem, ↓reduceIte, Nat.reduceEqDiff, Nat.reduceLT, Nat.reduceAdd, Nat.reduceMul, Nat.reduceLeDiff, Nat.le_refl, Int.natCast_zero, Int.toNat_natCast, Int.reduceToNat, *])
      | (refine sCallX_one (c_l01In _ _ _) ?_; try simp -dsimp -implicitDefEqProofs only [go_sem, ↓reduceIte, Nat.reduceEqDiff, Nat.reduceLT, Nat.reduceAdd, Nat.reduceMul, Nat.reduceLeDiff, Nat.le_refl, Int.natCast_zero, Int.toNat_natCast, Int.reduceToNat, *])
    all_goals first
      | omega
      | (refine ⟨?_, ?_⟩ <;> omega)
      | rfl
      | (simp; done)
      | (rw [no (by simp_all)]; rfl)
      | (refine yes ?_; simp_all; done)
      | trace_state
  · simp -dsimp -implicitDefEqProofs only [pick_nil, pick_cons, look_nil, look_cons, dropB_nil, dropB_cons, inD_nil, inD_cons, inE_nil, inE_cons, or_t_l, or_f_l, Nat.reduceBEq, Nat.reduceDiv, Nat.reduceAdd, beq_self_eq_true, Bool.false_eq_true, Bool.or_false, ↓reduceIte, Nat.reduceEqDiff, List.cons_append, List.nil_append]
    rw [List.take_length] at hI
    simp -dsimp -implicitDefEqProofs only [go_sem, ↓reduceIte, Nat.reduceEqDiff, Nat.reduceLT, Nat.reduceAdd, Nat.reduceMul, Nat.reduceLeDiff, Nat.le_refl, Int.natCast_zero, Int.toNat_natCast, Int.reduceToNat, nlt_len]
    rw [hI]
    rfl
theorem c_areCutsK (m : MkM) (c : List Int) (hm : isMk m = true) (h : c.length ≤ 1048576) : Fn Try.prog 131 [eMk m, eIs c] true (· = eB (((c.length : Int) == m.chambers) && (c.all fun x => isIn x 0 (m.depths - 1)))) := by
  refine Fn.of_vcN 17 [.tmp 4] Try.func131 rfl rfl rfl rfl rfl (of_decide_eq_true rfl) ?_
  have hb := isMk_num hm
  simp -dsimp -implicitDefEqProofs only [go_sem, ↓reduceIte, Nat.reduceEqDiff, Nat.reduceLT, Nat.reduceAdd, Nat.reduceMul, Nat.reduceLeDiff, Nat.le_refl, Int.natCast_zero, Int.toNat_natCast, Int.reduceToNat]
  repeat' first
    | (refine Br.intro (fun _ => ?_) (fun _ => ?_) <;> try simp -dsimp -implicitDefEqProofs only [go_sem, ↓reduceIte, Nat.reduceEqDiff, Nat.reduceLT, Nat.reduceAdd, Nat.reduceMul, Nat.reduceLeDiff, Nat.le_refl, Int.natCast_zero, Int.toNat_natCast, Int.reduceToNat, *])
    | (with_reducible refine And.intro ?_ ?_)
    | (refine sCallT_one (c_allWithin c 0 (m.depths - 1) (by omega)) ?_; try simp -dsimp -implicitDefEqProofs only [go_sem, ↓reduceIte, Nat.reduceEqDiff, Nat.reduceLT, Nat.reduceAdd, Nat.reduceMul, Nat.reduceLeDiff, Nat.le_refl, Int.natCast_zero, Int.toNat_natCast, Int.reduceToNat, *])
  all_goals first
    | omega
    | (refine ⟨?_, ?_⟩ <;> omega)
    | (simp_all; done)
    | trace_state
theorem elem_in {m : MkM} {c : List Int} (hm : isMk m = true) (ha : (c.all fun x => isIn x 0 (m.depths - 1)) = true) (i : Nat) (hi : i < c.length) : 0 ≤ c[i] ∧ c[i] ≤ 7 := by
  have := isMk_num hm
  rw [List.all_eq_true] at ha
  have := ha _ (List.getElem_mem hi)
  simp [isIn] at this
  omega
theorem isMk_same {m : MkM} (h : isMk m = true) : 1 ≤ m.same ∧ m.same ≤ 6 ∧ 1 ≤ m.least ∧ 1 ≤ m.step := by
  simp only [isMk, Bool.and_eq_true, isIn, decide_eq_true_eq] at h
  omega
end Go.Vc

/-
  All keys of a maker, in order: what visits them and what counts them, in plain Lean.
-/
set_option linter.unusedVariables false
set_option linter.unusedSimpArgs false
set_option linter.unnecessarySimpa false
namespace Go.Vc
open Go.Proofs
set_option maxRecDepth 100000
structure KS (σ : Type) where
  ver : Nat
  zs : List Int
  s : σ
def stN {τ : Type} (f : Nat → τ → τ × Bool) (t : τ) : Nat → τ × Bool
  | 0 => (t, true)
  | i + 1 => if (stN f t i).2 = true then f i (stN f t i).1 else stN f t i
theorem stN_succ {τ : Type} {f : Nat → τ → τ × Bool} {t : τ} {i : Nat} (h : (stN f t i).2 = true) : stN f t (i + 1) = f i (stN f t i).1 := by
  rw [stN, if_pos h]
theorem stN_stop {τ : Type} {f : Nat → τ → τ × Bool} {t : τ} {i : Nat} (h : (stN f t i).2 = false) : ∀ j, i ≤ j → stN f t j = stN f t i := by
  intro j hj
  induction j with
  | zero => rw [show i = 0 by omega]
  | succ j ih =>
    by_cases e : i = j + 1
    · rw [e]
    · have := ih (by omega)
      rw [stN, this, if_neg (by rw [h]; exact fun e => by cases e)]
def visitL {σ : Type} (f : σ → List Int → σ × Bool) : σ → List (List Int) → σ × Bool
  | s, [] => (s, true)
  | s, k :: r => if (f s k).2 = true then visitL f (f s k).1 r else f s k
theorem visitL_append {σ : Type} {f : σ → List Int → σ × Bool} : ∀ (a b : List (List Int)) (s : σ), visitL f s (a ++ b) = if (visitL f s a).2 = true then visitL f (visitL f s a).1 b else visitL f s a
  | [], b, s => by simp [visitL]
  | k :: a, b, s => by
    simp only [List.cons_append, visitL]
    by_cases h : (f s k).2 = true
    · simp only [h, if_true]; exact visitL_append a b _
    · have h' : (f s k).2 = false := by simpa using h
      simp [h']
def stepOk (m : MkM) (c : List Int) (d : Int) : Bool := c.isEmpty || decide (absN (d - c.getD (c.length - 1) 0) ≤ m.step)
def runOk (m : MkM) (c : List Int) (d : Int) : Bool := decide ((runAt (c ++ [d]) c.length : Int) ≤ m.same)
def keysFrom (m : MkM) : Nat → List Int → List (List Int)
  | 0, c => if (kindsTo c c.length : Int) < m.least then [] else [c]
  | n + 1, c => (List.range m.depths.toNat).flatMap fun (d : Nat) => if (stepOk m c (d : Int) && runOk m c (d : Int)) = true then keysFrom m n (c ++ [(d : Int)]) else []
def cutF {σ : Type} (m : MkM) (f : σ → List Int → σ × Bool) : Nat → List Int → KS σ → KS σ × Bool
  | 0, c, t => if (kindsTo c c.length : Int) < m.least then (t, true) else (⟨t.ver, t.zs, (f t.s c).1⟩, (f t.s c).2)
  | n + 1, c, t => stN (fun (d : Nat) t => if stepOk m c d = true then if runOk m c d = true then cutF m f n (c ++ [(d : Int)]) ⟨t.ver + 1, t.zs.take c.length ++ [(d : Int)], t.s⟩ else (⟨t.ver + 1, t.zs.take c.length ++ [(d : Int)], t.s⟩, true) else (t, true)) t m.depths.toNat
def cutB {σ : Type} (m : MkM) (f : σ → List Int → σ × Bool) (n : Nat) (c : List Int) (d : Nat) (t : KS σ) : KS σ × Bool :=
  if stepOk m c d = true then if runOk m c d = true then cutF m f n (c ++ [(d : Int)]) ⟨t.ver + 1, t.zs.take c.length ++ [(d : Int)], t.s⟩ else (⟨t.ver + 1, t.zs.take c.length ++ [(d : Int)], t.s⟩, true) else (t, true)
theorem cutF_succ {σ : Type} (m : MkM) (f : σ → List Int → σ × Bool) (n : Nat) (c : List Int) (t : KS σ) : cutF m f (n + 1) c t = stN (cutB m f n c) t m.depths.toNat := rfl
def okZ {σ : Type} (c : List Int) (t : KS σ) : Prop := t.zs.take c.length = c ∧ c.length ≤ t.zs.length
theorem okZ_next {σ : Type} {c : List Int} {t : KS σ} (h : okZ c t) (d : Int) : okZ (c ++ [d]) (⟨t.ver + 1, t.zs.take c.length ++ [d], t.s⟩ : KS σ) := by
  refine ⟨?_, ?_⟩
  · show (t.zs.take c.length ++ [d]).take (c ++ [d]).length = _
    rw [h.1]; exact List.take_length
  · show (c ++ [d]).length ≤ (t.zs.take c.length ++ [d]).length
    rw [h.1]; exact Nat.le_refl _
theorem okZ_back {σ : Type} {c : List Int} {d : Int} {t : KS σ} (h : okZ (c ++ [d]) t) : okZ c t := by
  have h2 : c.length ≤ t.zs.length := by have := h.2; simp at this; omega
  refine ⟨?_, h2⟩
  have := congrArg (List.take c.length) h.1
  simp only [List.take_take] at this
  rw [show min c.length (c ++ [d]).length = c.length by simp] at this
  rw [this]; simp
theorem cutF_spec {σ : Type} (m : MkM) (f : σ → List Int → σ × Bool) : ∀ (n : Nat) (c : List Int) (t : KS σ), okZ c t → okZ c (cutF m f n c t).1 ∧ (cutF m f n c t).1.s = (visitL f t.s (keysFrom m n c)).1 ∧ (cutF m f n c t).2 = (visitL f t.s (keysFrom m n c)).2
  | 0, c, t, h => by
    simp only [cutF, keysFrom]
    split
    · exact ⟨h, rfl, rfl⟩
    · refine ⟨h, ?_, ?_⟩
      · simp only [visitL]; split <;> rfl
      · simp only [visitL]; split <;> simp_all
  | n + 1, c, t, h => by
    rw [cutF_succ, keysFrom]
    generalize m.depths.toNat = D
    induction D with
    | zero => exact ⟨h, rfl, rfl⟩
    | succ D ih =>
      obtain ⟨i1, i2, i3⟩ := ih
      rw [List.range_succ, List.flatMap_append, visitL_append]
      rw [← i3]
      by_cases hb : (stN (cutB m f n c) t D).2 = true
      · rw [stN_succ hb, if_pos hb, ← i2]
        generalize (stN (cutB m f n c) t D).1 = u at i1
        simp only [List.flatMap_cons, List.flatMap_nil, List.append_nil, cutB]
        by_cases h1 : stepOk m c D = true
        · by_cases h2 : runOk m c D = true
          · rw [if_pos h1, if_pos h2, if_pos (by rw [h1, h2]; rfl)]
            have := cutF_spec m f n (c ++ [(D : Int)]) ⟨u.ver + 1, u.zs.take c.length ++ [(D : Int)], u.s⟩ (okZ_next i1 D)
            exact ⟨okZ_back this.1, this.2.1, this.2.2⟩
          · rw [if_pos h1, if_neg h2, if_neg (by simp [h2])]
            exact ⟨okZ_back (okZ_next i1 D), rfl, rfl⟩
        · rw [if_neg h1, if_neg (by simp [h1])]
          exact ⟨i1, rfl, rfl⟩
      · rw [stN, if_neg hb, if_neg hb]
        exact ⟨i1, i2, by simpa using i3⟩
theorem stN_okZ {σ : Type} {m : MkM} {f : σ → List Int → σ × Bool} {n : Nat} {c : List Int} {t : KS σ} (h : okZ c t) : ∀ D, okZ c (stN (cutB m f n c) t D).1
  | 0 => h
  | D + 1 => by
    have i1 := stN_okZ h D (m := m) (f := f) (n := n)
    by_cases hb : (stN (cutB m f n c) t D).2 = true
    · rw [stN_succ hb]
      generalize (stN (cutB m f n c) t D).1 = u at i1
      simp only [cutB]
      by_cases h1 : stepOk m c D = true
      · by_cases h2 : runOk m c D = true
        · rw [if_pos h1, if_pos h2]
          exact okZ_back (cutF_spec m f n (c ++ [(D : Int)]) ⟨u.ver + 1, u.zs.take c.length ++ [(D : Int)], u.s⟩ (okZ_next i1 D)).1
        · rw [if_pos h1, if_neg h2]; exact okZ_back (okZ_next i1 D)
      · rw [if_neg h1]; exact i1
    · rw [stN, if_neg hb]; exact i1
theorem keysFrom_len (m : MkM) (hm : isMk m = true) : ∀ (n : Nat) (c : List Int), (keysFrom m n c).length ≤ 8 ^ n
  | 0, c => by simp only [keysFrom]; split <;> simp
  | n + 1, c => by
    have hd : m.depths.toNat ≤ 8 := by have := isMk_num hm; omega
    have : ∀ D, ((List.range D).flatMap fun (d : Nat) => if (stepOk m c (d : Int) && runOk m c (d : Int)) = true then keysFrom m n (c ++ [(d : Int)]) else []).length ≤ D * 8 ^ n := by
      intro D
      induction D with
      | zero => simp
      | succ D ih =>
        rw [List.range_succ, List.flatMap_append, List.length_append, Nat.succ_mul]
        refine Nat.add_le_add ih ?_
        simp only [List.flatMap_cons, List.flatMap_nil, List.append_nil]
        split
        · exact keysFrom_len m hm n _
        · exact Nat.zero_le _
    rw [keysFrom, Nat.pow_succ, Nat.mul_comm (8 ^ n) 8]
    exact Nat.le_trans (this _) (Nat.mul_le_mul_right _ hd)
theorem keysFrom_mem (m : MkM) : ∀ (n : Nat) (c k : List Int), k ∈ keysFrom m n c → k.take c.length = c ∧ k.length = c.length + n
  | 0, c, k, h => by
    simp only [keysFrom] at h
    split at h
    · cases h
    · simp at h; subst h; simp
  | n + 1, c, k, h => by
    simp only [keysFrom, List.mem_flatMap, List.mem_range] at h
    obtain ⟨d, _, h⟩ := h
    split at h
    · have := keysFrom_mem m n _ k h
      have h1 := congrArg (List.take c.length) this.1
      simp only [List.take_take] at h1
      rw [show min c.length (c ++ [(d : Int)]).length = c.length by simp] at h1
      refine ⟨by rw [h1]; simp, by rw [this.2]; simp; omega⟩
    · cases h
theorem stN_inc {m : MkM} (hm : isMk m = true) {f : Int → List Int → Int × Bool} {n : Nat} {c : List Int} (hc : ∀ (c' : List Int) (t : KS Int), t.s ≤ (cutF m f n c' t).1.s ∧ (cutF m f n c' t).1.s ≤ t.s + 8 ^ n) (t : KS Int) :
    ∀ D : Nat, t.s ≤ (stN (cutB m f n c) t D).1.s ∧ (stN (cutB m f n c) t D).1.s ≤ t.s + D * 8 ^ n
  | 0 => by simp [stN]
  | D + 1 => by
    have ih := stN_inc hm hc t D (c := c)
    have hp : (0 : Int) ≤ 8 ^ n := Int.pow_nonneg (by decide)
    have e : ((D + 1 : Nat) : Int) * 8 ^ n = (D : Int) * 8 ^ n + 8 ^ n := by rw [Int.natCast_add, Int.add_mul]; simp
    rw [e]
    by_cases hb : (stN (cutB m f n c) t D).2 = true
    · rw [stN_succ hb]
      generalize (stN (cutB m f n c) t D).1 = u at ih
      simp only [cutB]
      split
      · split
        · have := hc (c ++ [(D : Int)]) ⟨u.ver + 1, u.zs.take c.length ++ [(D : Int)], u.s⟩
          simp only at this
          omega
        · simp only; omega
      · simp only; omega
    · rw [stN, if_neg hb]; omega
theorem cutF_inc {m : MkM} (hm : isMk m = true) {f : Int → List Int → Int × Bool} (hf : ∀ s k, s ≤ (f s k).1 ∧ (f s k).1 ≤ s + 1) : ∀ (n : Nat) (c : List Int) (t : KS Int), t.s ≤ (cutF m f n c t).1.s ∧ (cutF m f n c t).1.s ≤ t.s + 8 ^ n
  | 0, c, t => by
    simp only [cutF]
    have := hf t.s c
    split <;> simp <;> omega
  | n + 1, c, t => by
    have hd : m.depths.toNat ≤ 8 := by have := isMk_num hm; omega
    have := stN_inc hm (cutF_inc hm hf n) t m.depths.toNat (c := c)
    have hp : (0 : Int) ≤ 8 ^ n := Int.pow_nonneg (by decide)
    have h2 : (m.depths.toNat : Int) * 8 ^ n ≤ 8 * 8 ^ n := Int.mul_le_mul_of_nonneg_right (by omega) hp
    have h3 : (8 : Int) ^ (n + 1) = 8 * 8 ^ n := by rw [Int.pow_succ, Int.mul_comm]
    rw [cutF_succ, h3]
    omega
def cntF (s : Int) (_ : List Int) : Int × Bool := (s + 1, true)
def rankF (key : List Int) (s : Int) (k : List Int) : Int × Bool := if k = key then (s, false) else (s + 1, true)
theorem visit_cnt : ∀ (ks : List (List Int)) (s : Int), visitL cntF s ks = (s + ks.length, true)
  | [], s => by simp [visitL]
  | k :: r, s => by
    show visitL cntF (s + 1) r = _
    rw [visit_cnt r]
    simp; omega
theorem visit_rank {key : List Int} : ∀ (a b : List (List Int)) (s : Int), key ∉ a → visitL (rankF key) s (a ++ key :: b) = (s + a.length, false)
  | [], b, s, _ => by simp [visitL, rankF]
  | k :: a, b, s, h => by
    have h1 : k ≠ key := fun e => h (by simp [e])
    have h2 : rankF key s k = (s + 1, true) := by simp [rankF, h1]
    rw [List.cons_append, visitL, h2]
    show visitL (rankF key) (s + 1) _ = _
    rw [visit_rank a b (s + 1) fun hh => h (List.mem_cons_of_mem _ hh)]
    simp; omega
/-- whether cuts may begin a key -/
def okTo (m : MkM) (c : List Int) : Bool := (List.range c.length).all fun i => decide ((runAt c i : Int) ≤ m.same) && stepAt m c i
theorem stepAt_take {m : MkM} {c : List Int} {d : Int} {i : Nat} (h : i < c.length) : stepAt m (c ++ [d]) i = stepAt m c i := by
  have g : ∀ j, j < c.length → (c ++ [d]).getD j 0 = c.getD j 0 := fun j hj => by simp [List.getD_eq_getElem?_getD, List.getElem?_append_left hj]
  unfold stepAt
  rw [g i h, g (i - 1) (by omega)]
theorem runAt_app {c : List Int} {d : Int} {i : Nat} (h : i < c.length) : runAt (c ++ [d]) i = runAt c i := by
  have := runAt_take (c ++ [d]) c.length i h
  simp at this
  exact this.symm
theorem okTo_snoc (m : MkM) (c : List Int) (d : Int) : okTo m (c ++ [d]) = (okTo m c && (stepOk m c d && runOk m c d)) := by
  have h1 : (List.range c.length).all (fun i => decide ((runAt (c ++ [d]) i : Int) ≤ m.same) && stepAt m (c ++ [d]) i) = okTo m c := by
    unfold okTo
    rw [Bool.eq_iff_iff, List.all_eq_true, List.all_eq_true]
    constructor
    · intro h i hi
      have := h i hi
      rwa [runAt_app (List.mem_range.1 hi), stepAt_take (List.mem_range.1 hi)] at this
    · intro h i hi
      rw [runAt_app (List.mem_range.1 hi), stepAt_take (List.mem_range.1 hi)]
      exact h i hi
  have h2 : stepAt m (c ++ [d]) c.length = stepOk m c d := by
    unfold stepAt stepOk
    cases c with
    | nil => simp
    | cons x r =>
      have g1 : ((x :: r) ++ [d]).getD (x :: r).length 0 = d := by simp [List.getD_eq_getElem?_getD]
      have g2 : ((x :: r) ++ [d]).getD ((x :: r).length - 1) 0 = (x :: r).getD ((x :: r).length - 1) 0 := by
        simp only [List.getD_eq_getElem?_getD]
        rw [List.getElem?_append_left (by simp)]
      rw [g1, g2]
      simp
  rw [okTo, List.length_append, show c.length + [d].length = c.length + 1 by rfl, range_all_succ, h1, h2]
  unfold runOk
  cases okTo m c <;> cases stepOk m c d <;> simp
def cnt (m : MkM) (n : Nat) (c : List Int) : Nat := if okTo m c = true then (keysFrom m n c).length else 0
theorem cnt_zero (m : MkM) (c : List Int) (h : okTo m c = true) : cnt m 0 c = if (kindsTo c c.length : Int) < m.least then 0 else 1 := by
  rw [cnt, if_pos h, keysFrom]
  split <;> rfl
def cntTo (m : MkM) (n : Nat) (c : List Int) (D : Nat) : Nat := ((List.range D).map fun (d : Nat) => cnt m n (c ++ [(d : Int)])).sum
theorem cntTo_succ (m : MkM) (n : Nat) (c : List Int) (D : Nat) : cntTo m n c (D + 1) = cntTo m n c D + cnt m n (c ++ [(D : Int)]) := by
  rw [cntTo, List.range_succ, List.map_append, List.sum_append]
  simp [cntTo]
def keysTo (m : MkM) (n : Nat) (c : List Int) (D : Nat) : List (List Int) := (List.range D).flatMap fun (d : Nat) => if (stepOk m c (d : Int) && runOk m c (d : Int)) = true then keysFrom m n (c ++ [(d : Int)]) else []
theorem keysTo_succ (m : MkM) (n : Nat) (c : List Int) (D : Nat) : keysTo m n c (D + 1) = keysTo m n c D ++ if (stepOk m c (D : Int) && runOk m c (D : Int)) = true then keysFrom m n (c ++ [(D : Int)]) else [] := by
  rw [keysTo, List.range_succ, List.flatMap_append]
  simp [keysTo]
theorem keysTo_len (m : MkM) (n : Nat) (c : List Int) (h : okTo m c = true) (D : Nat) : (keysTo m n c D).length = cntTo m n c D := by
  induction D with
  | zero => rfl
  | succ D ih =>
    rw [keysTo_succ, cntTo_succ, List.length_append, ih]
    congr 1
    rw [cnt, okTo_snoc, h, Bool.true_and]
    split <;> rfl
theorem cnt_succ (m : MkM) (n : Nat) (c : List Int) (h : okTo m c = true) : cnt m (n + 1) c = cntTo m n c m.depths.toNat := by
  rw [cnt, if_pos h, ← keysTo_len m n c h]; rfl
theorem cnt_le (m : MkM) (hm : isMk m = true) (n : Nat) (c : List Int) : cnt m n c ≤ 8 ^ n := by
  unfold cnt
  split
  · exact keysFrom_len m hm n c
  · exact Nat.zero_le _
theorem cntTo_le (m : MkM) (hm : isMk m = true) (n : Nat) (c : List Int) (D : Nat) : cntTo m n c D ≤ D * 8 ^ n := by
  induction D with
  | zero => simp [cntTo]
  | succ D ih => rw [cntTo_succ, Nat.succ_mul]; exact Nat.add_le_add ih (cnt_le m hm n _)
theorem keysTo_mem {m : MkM} {n : Nat} {c k : List Int} : ∀ {D : Nat}, k ∈ keysTo m n c D → ∃ d : Nat, d < D ∧ k.take (c.length + 1) = c ++ [(d : Int)]
  | 0, h => by cases h
  | D + 1, h => by
    rw [keysTo_succ, List.mem_append] at h
    rcases h with h | h
    · obtain ⟨d, h1, h2⟩ := keysTo_mem h; exact ⟨d, by omega, h2⟩
    · split at h
      · have := (keysFrom_mem m n _ k h).1
        exact ⟨D, by omega, by simpa using this⟩
      · cases h
theorem keysTo_split (m : MkM) (n : Nat) (c : List Int) (D : Nat) : ∀ E, ∃ r, keysTo m n c (D + E) = keysTo m n c D ++ r
  | 0 => ⟨[], by simp⟩
  | E + 1 => by
    obtain ⟨r, h⟩ := keysTo_split m n c D E
    exact ⟨r ++ _, by rw [← Nat.add_assoc, keysTo_succ, h, List.append_assoc]⟩
def rankTo (m : MkM) (key : List Int) : Nat → Nat
  | 0 => 0
  | i + 1 => rankTo m key i + cntTo m (key.length - (i + 1)) (key.take i) (key.getD i 0).toNat
theorem take_app {key : List Int} {i : Nat} (h : i < key.length) : key.take (i + 1) = key.take i ++ [key.getD i 0] := by
  rw [List.take_add_one]
  simp [List.getD_eq_getElem?_getD, h]
theorem okTo_take {m : MkM} {key : List Int} (h : okTo m key = true) : ∀ j, okTo m (key.take (key.length - j)) = true
  | 0 => by simpa using h
  | j + 1 => by
    have ih := okTo_take h j
    by_cases e : j < key.length
    · rw [show key.length - j = key.length - (j + 1) + 1 by omega, take_app (by omega), okTo_snoc] at ih
      simp only [Bool.and_eq_true] at ih
      exact ih.1
    · rw [show key.length - (j + 1) = key.length - j by omega]; exact ih
theorem okTo_take' {m : MkM} {key : List Int} (h : okTo m key = true) {i : Nat} (hi : i ≤ key.length) : okTo m (key.take i) = true := by
  have := okTo_take h (key.length - i)
  rwa [show key.length - (key.length - i) = i by omega] at this
theorem rank_at {m : MkM} {key : List Int} (h : okTo m key = true) (hk : ¬ (kindsTo key key.length : Int) < m.least) (he : ∀ x ∈ key, 0 ≤ x ∧ x < m.depths) : ∀ (n i : Nat), i + n = key.length →
    ∃ a b, keysFrom m n (key.take i) = a ++ key :: b ∧ key ∉ a ∧ a.length + rankTo m key i = rankTo m key key.length
  | 0, i, hi => by
    have e : key.take i = key := by rw [show i = key.length by omega]; exact List.take_length
    refine ⟨[], [], ?_, List.not_mem_nil, ?_⟩
    · rw [e, keysFrom, if_neg hk]; rfl
    · rw [show i = key.length by omega]; simp
  | n + 1, i, hi => by
    have hlt : i < key.length := by omega
    have hx := he (key.getD i 0) (by rw [List.getD_eq_getElem?_getD, List.getElem?_eq_getElem hlt]; exact List.getElem_mem _)
    have hsn := take_app hlt
    have hok1 := okTo_take' h (show i + 1 ≤ key.length by omega)
    obtain ⟨a', b', h1, h2, h3⟩ := rank_at h hk he n (i + 1) (by omega)
    have ed : ((key.getD i 0).toNat : Int) = key.getD i 0 := by omega
    have hcond : (stepOk m (key.take i) ((key.getD i 0).toNat : Int) && runOk m (key.take i) ((key.getD i 0).toNat : Int)) = true := by
      rw [hsn, okTo_snoc] at hok1
      simp only [Bool.and_eq_true] at hok1
      rw [ed, hok1.2.1, hok1.2.2]; rfl
    obtain ⟨r, hr⟩ := keysTo_split m n (key.take i) ((key.getD i 0).toNat + 1) (m.depths.toNat - ((key.getD i 0).toNat + 1))
    rw [show (key.getD i 0).toNat + 1 + (m.depths.toNat - ((key.getD i 0).toNat + 1)) = m.depths.toNat by omega, keysTo_succ, if_pos hcond, ed, ← hsn, h1] at hr
    refine ⟨keysTo m n (key.take i) (key.getD i 0).toNat ++ a', b' ++ r, ?_, fun hm => ?_, ?_⟩
    · show keysTo m n (key.take i) m.depths.toNat = _
      rw [hr]; simp
    · rcases List.mem_append.1 hm with hm | hm
      · obtain ⟨d, g1, g2⟩ := keysTo_mem hm
        rw [show (key.take i).length + 1 = i + 1 by simp; omega, hsn] at g2
        have := List.append_cancel_left g2
        injection this with this
        omega
      · exact h2 hm
    · rw [List.length_append, keysTo_len m n _ (okTo_take' h (by omega)), ← h3, rankTo, show key.length - (i + 1) = n by omega]
      omega
theorem fault_out {m : MkM} {c : List Int} (h : fault m c = 0) : (c.length : Int) = m.chambers ∧ (∀ x ∈ c, 0 ≤ x ∧ x < m.depths) ∧ okTo m c = true ∧ ¬ (kindsTo c c.length : Int) < m.least := by
  unfold fault at h
  split at h
  · cases h
  · rename_i h1
    split at h
    · cases h
    · rename_i h2
      split at h
      · cases h
      · rename_i h3
        split at h
        · cases h
        · rename_i h4
          split at h
          · cases h
          · rename_i h5
            refine ⟨by omega, fun x hx => ?_, ?_, h5⟩
            · have := List.all_eq_true.1 (by simpa using h2) x hx
              simp [isIn] at this; omega
            · unfold okTo
              rw [List.all_eq_true]
              intro i hi
              have a3 := List.all_eq_true.1 (by simpa using h3) i hi
              have h4' : ((List.range c.length).all fun i => decide ((runAt c i : Int) ≤ m.same)) = true := by
                cases hh : ((List.range c.length).all fun i => decide ((runAt c i : Int) ≤ m.same)) with
                | true => rfl
                | false => exact absurd hh h4
              have a4 := List.all_eq_true.1 h4' i hi
              simp only [a3, a4, Bool.and_self]
theorem rank_of {m : MkM} {key : List Int} (h : fault m key = 0) : (visitL (rankF key) 0 (keysFrom m m.chambers.toNat [])).1 = rankTo m key key.length ∧ rankTo m key key.length < cnt m m.chambers.toNat [] := by
  obtain ⟨h1, h2, h3, h4⟩ := fault_out h
  obtain ⟨a, b, g1, g2, g3⟩ := rank_at h3 h4 h2 key.length 0 (by omega)
  rw [show key.length = m.chambers.toNat by omega] at g1
  have g1' : keysFrom m m.chambers.toNat [] = a ++ key :: b := g1
  have g3' : a.length = rankTo m key key.length := by simpa [rankTo] using g3
  rw [g1', visit_rank a b 0 g2, ← g3']
  refine ⟨by simp, ?_⟩
  have h0 : okTo m [] = true := rfl
  rw [cnt, if_pos h0, g1']
  simp
end Go.Vc

/-
  Values that stand for others: nil for an empty list.
-/
set_option linter.unusedVariables false
set_option linter.unusedSimpArgs false
set_option linter.unnecessarySimpa false
namespace Go.Vc
open Go.Proofs
def Sub (x y : AV) : Prop := ∀ (w : World) (S : Nat → Prop) (v : Value), Rd w S x v → Rd w S y v
inductive SubL : List AV → List AV → Prop
  | nil : SubL [] []
  | cons {x y : AV} {xs ys : List AV} (h : Sub x y) (hs : SubL xs ys) : SubL (x :: xs) (y :: ys)
theorem Sub.refl (x : AV) : Sub x x := fun _ _ _ h => h
theorem Sub.nil (sh : Sh) : Sub (.val (.slice none 0 0)) (.arr sh []) := fun _ _ _ h => by cases h; exact .nil sh none
theorem SubL.get {xs ys : List AV} (h : SubL xs ys) : xs.length = ys.length ∧ ∀ i (h1 : i < xs.length) (h2 : i < ys.length), Sub xs[i] ys[i] := by
  induction h with
  | nil => exact ⟨rfl, fun i h1 => absurd h1 (Nat.not_lt_zero _)⟩
  | cons h hs ih =>
    refine ⟨by simp [ih.1], fun i h1 h2 => ?_⟩
    cases i with
    | zero => exact h
    | succ i => exact ih.2 i (by simpa using h1) (by simpa using h2)
theorem Fn.subs {P : Program} {f : FuncId} {args args' : List AV} {own : Bool} {post : AV → Prop} (h : Fn P f args own post) (hs : SubL args' args) : Fn P f args' own post :=
  ⟨h.1, fun w S vs h1 h0 h2 h3 => h.2 w S vs h1 h0 (h2.trans hs.get.1) fun i hi => hs.get.2 i (by rw [hs.get.1]; exact hi) hi _ _ _ (h3 i _)⟩
abbrev eNil : AV := .val (.slice none 0 0)
end Go.Vc

/-
  Contracts: what counts keys by their beginnings; codes of keys.
-/
set_option linter.unusedVariables false
set_option linter.unusedSimpArgs false
set_option linter.unnecessarySimpa false
namespace Go.Vc
open Go.Proofs
set_option maxRecDepth 100000
set_option maxHeartbeats 2000000
def okAt (m : MkM) (c : List Int) (i : Nat) : Bool := decide ((runAt c i : Int) ≤ m.same) && stepAt m c i
theorem c_l02Begins (m : MkM) (c : List Int) (hm : isMk m = true) (h : c.length ≤ 6) (hel : ∀ x ∈ c, 0 ≤ x ∧ x ≤ 7) : Fn Try.prog 177 [eMk m, eIs c] true (· = eB (okTo m c)) := by
  refine Fn.of_vcN 53 [.tmp 4] Try.func177 rfl rfl rfl rfl rfl (of_decide_eq_true rfl) ?_
  have hF : okTo m c = (List.range c.length).all (okAt m c) := rfl
  simp -dsimp -implicitDefEqProofs only [go_sem, ↓reduceIte, Nat.reduceEqDiff, Nat.reduceLT, Nat.reduceAdd, Nat.reduceMul, Nat.reduceLeDiff, Nat.le_refl, Int.natCast_zero, Int.toNat_natCast, Int.reduceToNat]
  refine Later.up [1, 2] [9, 47] [] c.length (fun i => (List.range i).all (okAt m c) = true) (fun i => [(6, eI i), (5, eI (runTo c i))]) (fun _ => []) (by simp) ?_ rfl (fun i hi hI => ?_) (fun hI => ?_)
  · rw [show runTo c 0 = 0 from rfl]
    simp -dsimp -implicitDefEqProofs only [go_sem, ↓reduceIte, Nat.reduceEqDiff, Nat.reduceLT, Nat.reduceAdd, Nat.reduceMul, Nat.reduceLeDiff, Nat.le_refl, Int.natCast_zero, Int.toNat_natCast, Int.reduceToNat]
    all_goals (first | omega | (refine ⟨?_, ?_⟩ <;> omega) | (simp; done) | (simp; omega) | (refine ⟨?_, ?_⟩ <;> omega) | rfl | (simp; done) | (simp_all; done) | (simp_all; omega) | (exfalso; simp_all [bne]; done) | trace_state)
  · have no : okAt m c i = false → okTo m c = false := fun h => by rw [hF]; exact range_all_no hi h
    have yes : okAt m c i = true → (List.range (i + 1)).all (okAt m c) = true := fun h => by rw [range_all_succ, hI, h]; rfl
    have hrb : runTo c i ≤ i ∧ runTo c (i + 1) ≤ i + 1 := by
      refine ⟨?_, (runAt_spec c i).2.1⟩
      rw [runTo]; split
      · omega
      · have := (runAt_spec c (i - 1)).2.1; omega
    have e1 := hel c[i] (List.getElem_mem hi)
    have gi := get_some hi
    have li := lt_len hi
    have hok : okAt m c i = (decide (((runTo c (i + 1) : Nat) : Int) ≤ m.same) && stepAt m c i) := rfl
    clear hF hI
    by_cases hi0 : 0 < i
    rotate_left
    · have g3 : decide ((i : Int) > 0) = false := by simp; omega
      have hR : runTo c i = 0 ∧ runTo c (i + 1) = 1 := by
        have e0 : i = 0 := by omega
        subst e0
        exact ⟨rfl, by show runAt c 0 = 1; unfold runAt; rfl⟩
      have hs : okAt m c i = true := by
        have e0 : i = 0 := by omega
        have := isMk_same hm
        rw [hok, hR.2]
        subst e0
        have : decide (((1 : Nat) : Int) ≤ m.same) = true := decide_eq_true (by omega)
        rw [this]; rfl
      have hsame : decide ((1 : Int) > m.same) = false := decide_eq_false (by have := isMk_same hm; omega)
      rw [hR.1, hR.2]
      clear hR hrb no
      have yes := yes hs
      simp -dsimp -implicitDefEqProofs only [pick_nil, pick_cons, look_nil, look_cons, dropB_nil, dropB_cons, inD_nil, inD_cons, inE_nil, inE_cons, or_t_l, or_f_l, Nat.reduceBEq, Nat.reduceDiv, Nat.reduceAdd, beq_self_eq_true, Bool.false_eq_true, Bool.or_false, ↓reduceIte, Nat.reduceEqDiff, List.cons_append, List.nil_append]
      simp -dsimp -implicitDefEqProofs only [go_sem, ↓reduceIte, Nat.reduceEqDiff, Nat.reduceLT, Nat.reduceAdd, Nat.reduceMul, Nat.reduceLeDiff, Nat.le_refl, Int.natCast_zero, Int.toNat_natCast, Int.reduceToNat, li, gi, g3]
      repeat' first
        | (refine Br.intro (fun _ => ?_) (fun _ => ?_) <;> try simp -dsimp -implicitDefEqProofs only [go_sem, ↓reduceIte, Nat.reduceEqDiff, Nat.reduceLT, Nat.reduceAdd, Nat.reduceMul, Nat.reduceLeDiff, Nat.le_refl, Int.natCast_zero, Int.toNat_natCast, Int.reduceToNat, *])
        | (with_reducible refine And.intro ?_ ?_)
        | (refine Later.draw mixed rfl ?_; try simp -dsimp -implicitDefEqProofs only [go_sem, ↓reduceIte, Nat.reduceEqDiff, Nat.reduceLT, Nat.reduceAdd, Nat.reduceMul, Nat.reduceLeDiff, Nat.le_refl, Int.natCast_zero, Int.toNat_natCast, Int.reduceToNat, li, gi, g3, hsame])
      all_goals first
        | exact yes
        | (first | omega | (refine ⟨?_, ?_⟩ <;> omega) | (simp; done) | (simp; omega) | (refine ⟨?_, ?_⟩ <;> omega) | rfl | (simp; done) | (simp_all; done) | (simp_all; omega) | (exfalso; simp_all [bne]; done) | trace_state)
    · have hi' : i - 1 < c.length := by omega
      have e2 := hel c[i - 1] (List.getElem_mem hi')
      have g2 : c[((i : Int) - 1).toNat]? = some c[i - 1] := by rw [pred_toNat hi0]; exact get_some hi'
      have g3 : decide ((i : Int) > 0) = true := by simp; omega
      have hs : stepAt m c i = !decide (absN (c[i] - c[i - 1]) > m.step) := by
        rw [stepAt, show (i == 0) = false by simp; omega]
        have q1 : c.getD i 0 = c[i] := by simp [List.getD_eq_getElem?_getD, hi]
        have q2 : c.getD (i - 1) 0 = c[i - 1] := by simp [List.getD_eq_getElem?_getD, hi']
        rw [q1, q2, Bool.false_or]
        by_cases hq : absN (c[i] - c[i - 1]) ≤ m.step
        · rw [decide_eq_true hq, decide_eq_false (by omega)]; rfl
        · rw [decide_eq_false hq, decide_eq_true (by omega)]; rfl
      have hR : ((runTo c (i + 1) : Nat) : Int) = if (c[i] == c[i - 1]) = true then (runTo c i : Int) + 1 else 0 + 1 := by
        obtain ⟨j, rfl⟩ : ∃ j, i = j + 1 := ⟨i - 1, by omega⟩
        rw [show runTo c (j + 1 + 1) = runAt c (j + 1) from rfl, show runTo c (j + 1) = runAt c j from rfl, runAt]
        simp only [Nat.add_sub_cancel]
        have q1 : c.getD (j + 1) 0 = c[j + 1] := by simp [List.getD_eq_getElem?_getD, hi]
        have q2 : c.getD j 0 = c[j] := by simp [List.getD_eq_getElem?_getD, show j < c.length by omega]
        rw [q1, q2]
        by_cases hq : c[j + 1] = c[j]
        · rw [if_pos hq, if_pos (by simpa using hq)]; simp
        · rw [if_neg hq, if_neg (by simpa using hq)]; simp
      have hok2 : okAt m c i = (!decide (((runTo c (i + 1) : Nat) : Int) > m.same) && !decide (absN (c[i] - c[i - 1]) > m.step)) := by
        rw [hok, hs]
        congr 1
        by_cases hq : ((runTo c (i + 1) : Nat) : Int) ≤ m.same
        · rw [decide_eq_true hq, decide_eq_false (by omega)]; rfl
        · rw [decide_eq_false hq, decide_eq_true (by omega)]; rfl
      clear hok hs
      rw [hok2] at no yes
      clear hok2
      have habs := c_l01Abs (c[i] - c[i - 1]) (by omega)
      rcases hq1 : (c[i] == c[i - 1]) with _ | _
      all_goals
        rw [hq1] at hR
        simp only [if_true, Bool.false_eq_true, if_false] at hR
        have hne : (c[i] != c[i - 1]) = !(c[i] == c[i - 1]) := rfl
        rw [hq1] at hne
        rw [hR] at no yes
        rcases hq2 : decide (absN (c[i] - c[i - 1]) > m.step) with _ | _
      all_goals
        first
          | (rcases hq3 : decide ((runTo c i : Int) + 1 > m.same) with _ | _)
          | skip
      all_goals
        generalize runTo c i = R at *
        generalize runTo c (i + 1) = R' at *
        simp -dsimp -implicitDefEqProofs only [pick_nil, pick_cons, look_nil, look_cons, dropB_nil, dropB_cons, inD_nil, inD_cons, inE_nil, inE_cons, or_t_l, or_f_l, Nat.reduceBEq, Nat.reduceDiv, Nat.reduceAdd, beq_self_eq_true, Bool.false_eq_true, Bool.or_false, ↓reduceIte, Nat.reduceEqDiff, List.cons_append, List.nil_append]
        try rw [hR]
        simp -dsimp -implicitDefEqProofs only [go_sem, ↓reduceIte, Nat.reduceEqDiff, Nat.reduceLT, Nat.reduceAdd, Nat.reduceMul, Nat.reduceLeDiff, Nat.le_refl, Int.natCast_zero, Int.toNat_natCast, Int.reduceToNat, li, gi, g2, g3]
        repeat' first
          | (refine Br.intro (fun _ => ?_) (fun _ => ?_) <;> try simp -dsimp -implicitDefEqProofs only [go_sem, ↓reduceIte, Nat.reduceEqDiff, Nat.reduceLT, Nat.reduceAdd, Nat.reduceMul, Nat.reduceLeDiff, Nat.le_refl, Int.natCast_zero, Int.toNat_natCast, Int.reduceToNat, *])
          | (with_reducible refine And.intro ?_ ?_)
          | (refine Later.draw mixed rfl ?_; try simp -dsimp -implicitDefEqProofs only [go_sem, ↓reduceIte, Nat.reduceEqDiff, Nat.reduceLT, Nat.reduceAdd, Nat.reduceMul, Nat.reduceLeDiff, Nat.le_refl, Int.natCast_zero, Int.toNat_natCast, Int.reduceToNat, li, gi, g2, g3])
          | (refine sCallX_one (habs) ?_; try simp -dsimp -implicitDefEqProofs only [go_sem, ↓reduceIte, Nat.reduceEqDiff, Nat.reduceLT, Nat.reduceAdd, Nat.reduceMul, Nat.reduceLeDiff, Nat.le_refl, Int.natCast_zero, Int.toNat_natCast, Int.reduceToNat, *])
        all_goals first
          | (rw [no (by simp_all)]; done)
          | (rw [← List.range_succ]; exact yes (by simp_all))
          | (first | omega | (refine ⟨?_, ?_⟩ <;> omega) | (simp; done) | (simp; omega) | (refine ⟨?_, ?_⟩ <;> omega) | rfl | (simp; done) | (simp_all; done) | (simp_all; omega) | (exfalso; simp_all [bne]; done) | trace_state)
  · rw [← hF] at hI
    rw [hI]
    simp -dsimp -implicitDefEqProofs only [pick_nil, pick_cons, look_nil, look_cons, dropB_nil, dropB_cons, inD_nil, inD_cons, inE_nil, inE_cons, or_t_l, or_f_l, Nat.reduceBEq, Nat.reduceDiv, Nat.reduceAdd, beq_self_eq_true, Bool.false_eq_true, Bool.or_false, ↓reduceIte, Nat.reduceEqDiff, List.cons_append, List.nil_append]
    simp -dsimp -implicitDefEqProofs only [go_sem, ↓reduceIte, Nat.reduceEqDiff, Nat.reduceLT, Nat.reduceAdd, Nat.reduceMul, Nat.reduceLeDiff, Nat.le_refl, Int.natCast_zero, Int.toNat_natCast, Int.reduceToNat, nlt_len]
end Go.Vc

/-
  A region that draws its order, whose last operations each wait for all before them: the first by the rule for drawn regions, the last in the order of the text.
-/
set_option linter.unusedVariables false
set_option linter.unusedSimpArgs false
set_option linter.unnecessarySimpa false
namespace Go.Vc

/-- From place n on each operation waits for all that stand before it. -/
def soloB (ops : List Oper) (n : Nat) : Bool := backB ops && (List.range ops.length).all fun j => decide (j < n) || (List.range j).all fun i => ((ancsGo ops []).getD j []).contains i

section
variable {P : Program} {B : Base} {N : Nat} {φ : Nat → LS} {fp : Nat → List Nat} {S : Nat → Prop} {ts : Env} {m : Mem} {a : Act} {w : World}
variable {os : Nat → Oper} {qs : Nat → Rec} {D D' : Nat → Bool} {ops : List Oper} {tr : List (List Nat × List Nat)}

theorem solo_out {n : Nat} (h : soloB ops n = true) (hD : Closed ops D) {j : Nat} (hj : j < ops.length) (hn : n ≤ j) (hd : D j = true) : ∀ i, i < j → D i = true := by
  intro i hi
  simp only [soloB, Bool.and_eq_true, List.all_eq_true, List.mem_range, Bool.or_eq_true, decide_eq_true_eq, List.contains_eq_mem] at h
  rcases h.2 j hj with h1 | h1
  · omega
  · exact ancsGo_closed hD ops [] rfl (fun j x hx => by simp at hx) j i (h1 i hi) hd

theorem back_of {n : Nat} (h : soloB ops n = true) : ∀ i o, ops[i]? = some o → ∀ p, p ∈ preds o → p < i := by
  intro i o ho p hp
  simp only [soloB, backB, Bool.and_eq_true, List.all_eq_true, List.mem_range] at h
  have := h.1 i (List.getElem?_eq_some_iff.1 ho).1
  rw [ho] at this
  simpa using List.all_eq_true.1 this p hp

/-- the operations below k have been listed, no others -/
def Upk (ops : List Oper) (k : Nat) (listed : Array Bool) : Prop := listed.size = ops.length ∧ ∀ i, i < ops.length → listed.getD i false = decide (i < k)

/-- The last operations, one after the other. -/
theorem tail_sound {n : Nat} (hs : soloB ops n = true) (hok : opsOk N ops = true) (hgs : guardsOk N ops = true) {Q : Exit → Act → World → Prop} {K : St} (hQ : ∀ a w, Done B N K a w → Q .normal a w) :
    ∀ (c k fuel : Nat) (listed : Array Bool) (φ : Nat → LS) (fp : Nat → List Nat) (S : Nat → Prop) (ts : Env) (m : Mem) (a : Act) (w : World), c = ops.length - k → n ≤ k → k ≤ ops.length → Upk ops k listed → ops.length - k ≤ fuel →
      RS B N φ fp S ts m a w → sL P ops (ops.drop k) ts m K → wpAny P .any ops.toArray Q fuel listed a w := by
  intro c
  induction c with
  | zero =>
    intro k fuel listed φ fp S ts m a w hc hnk hk hu hf h hsl
    have hkl : k = ops.length := by omega
    subst hkl
    rw [List.drop_length] at hsl
    have hfin : Q .normal a w := hQ a w ⟨φ, fp, S, ts, m, h, hsl⟩
    have hr : Region.ready .any ops.toArray listed = [] := by
      cases hr : Region.ready .any ops.toArray listed with
      | nil => rfl
      | cons j r =>
        have hj : j ∈ Region.ready .any ops.toArray listed := by rw [hr]; exact List.mem_cons_self ..
        obtain ⟨h0, o, ho, _⟩ := mem_ready.1 hj
        have hjn : j < ops.length := by simpa using (Array.getElem?_eq_some_iff.1 ho).1
        have := hu.2 j hjn
        rw [getD_both h0] at this
        simp at this; omega
    cases fuel with
    | zero => exact ⟨hr, hfin⟩
    | succ fuel => exact ⟨fun _ => hfin, fun i hi => by rw [hr] at hi; cases hi⟩
  | succ c ih =>
    intro k fuel listed φ fp S ts m a w hc hnk hk hu hf h hsl
    have hkl : k < ops.length := by omega
    have hok1 : ops[k]? = some ops[k] := List.getElem?_eq_getElem hkl
    rw [List.drop_eq_getElem_cons hkl] at hsl
    generalize ops[k] = o at hok1 hsl
    obtain ⟨fuel, rfl⟩ : ∃ f, fuel = f + 1 := ⟨fuel - 1, by omega⟩
    have hclosed : Closed ops (fun i => listed.getD i false) := by
      intro j oj hoj hdj i hi
      have hjn := (List.getElem?_eq_some_iff.1 hoj).1
      have h1 := hu.2 j hjn
      have h2 := back_of hs j oj hoj i hi
      have h3 := hu.2 i (by omega)
      simp only at hdj ⊢
      rw [h1] at hdj
      rw [h3]
      simp at hdj ⊢; omega
    have hready : k ∈ Region.ready .any ops.toArray listed := by
      refine mem_ready.2 ⟨?_, o, by simpa using hok1, fun e he hb => ?_⟩
      · have h5 : listed.getD k false = false := by rw [hu.2 k hkl]; exact decide_eq_false (Nat.lt_irrefl k)
        exact getD_in (by rw [hu.1]; exact hkl) h5
      · have hp : e.on ∈ preds o := List.mem_map.2 ⟨e, List.mem_filter.2 ⟨by simpa using he, hb⟩, rfl⟩
        have hlt := back_of hs k o hok1 _ hp
        rw [hu.2 e.on (by omega)]; simpa using hlt
    refine ⟨fun hr => (by rw [hr] at hready; exact absurd hready List.not_mem_nil), fun j hj => ?_⟩
    obtain ⟨h0, oj, hoj, hpre⟩ := mem_ready.1 hj
    have hdj : listed.getD j false = false := getD_both h0
    have hoj' : ops[j]? = some oj := by simpa using hoj
    have hjn : j < ops.length := (List.getElem?_eq_some_iff.1 hoj').1
    have hjk : k ≤ j := by
      have := hu.2 j hjn
      rw [hdj] at this; simp at this; omega
    have hp : ∀ i, i ∈ preds oj → listed.getD i false = true := by
      intro i hi
      obtain ⟨e, he, rfl⟩ := List.mem_map.1 hi
      obtain ⟨he1, he2⟩ := List.mem_filter.1 he
      exact hpre e (by simpa using he1) he2
    have e : j = k := by
      rcases Nat.lt_or_ge k j with hlt | hge
      · have hadd := hclosed.add hoj' hp
        have := solo_out hs hadd hjn (by omega) (by simp [addD]) k hlt
        simp only [addD, hu.2 k hkl, Bool.or_eq_true, beq_iff_eq] at this
        simp at this; omega
      · omega
    subst e
    rw [hok1] at hoj'
    injection hoj' with hoj'
    subst hoj'
    have hup : Upk ops (j + 1) (listed.setIfInBounds j true) := by
      refine ⟨by simp [hu.1], fun i hi => ?_⟩
      by_cases e : i = j
      · subst e; simp [hu.1, hi]
      · rw [getD_set_ne false (Ne.symm e), hu.2 i hi]
        simp; omega
    have hdo : ∀ d, o.dst = some d → d < N := by
      intro d hd
      have := List.all_eq_true.1 hok o (List.mem_of_getElem? hok1)
      rw [hd] at this; simpa using this
    have next : ∀ a' w', Done B N (fun ts m => sL P ops (ops.drop (j + 1)) ts m K) a' w' → wpAny P .any ops.toArray Q fuel (listed.setIfInBounds j true) a' w' := by
      rintro a' w' ⟨φ', fp', S', ts', m', h', hk'⟩
      exact ih (j + 1) fuel _ φ' fp' S' ts' m' a' w' (by omega) (by omega) (by omega) hup (by omega) h' hk'
    unfold wpOp
    have hoA : ops.toArray[j]? = some o := by simpa using hok1
    simp only [hoA]
    simp only [sL] at hsl
    cases hg : o.guard with
    | none =>
      rw [hg] at hsl
      rw [wanted_of h hgs hok1 (show want1 ops o ts = some true by simp [want1, hg])]
      simp only [if_true]
      exact .inl (op_sound h hsl fun v w' hgv => next _ _ (step_done hdo hgv fun x m' hx => hx))
    | some jw =>
      obtain ⟨g, want⟩ := jw
      rw [hg] at hsl
      simp only at hsl
      unfold sGuard at hsl
      split at hsl
      · rename_i c hy
        by_cases hcw : c = want
        · subst hcw
          rw [wanted_of h hgs hok1 (show want1 ops o ts = some true by simp [want1, hg, hy])]
          simp only [if_true]
          exact .inl (op_sound h (hsl.1 rfl) fun v w' hgv => next _ _ (step_done hdo hgv fun x m' hx => hx))
        · rw [wanted_of h hgs hok1 (show want1 ops o ts = some false by simp [want1, hg, hy, hcw])]
          simp only [Bool.false_eq_true, if_false]
          have hk2 := hsl.2 hcw
          refine next _ _ (step_done (k := fun x m' => x = .tup [] ∧ m' = m) hdo (h.gives (x := .tup []) (.rd _ _ (.tup [] #[] rfl fun i hi => absurd hi (Nat.not_lt_zero _))) (fun _ _ hl => by cases hl) ⟨rfl, rfl, rfl⟩) fun x m' ⟨h1, h2⟩ => ?_)
          rw [h1, h2]; exact hk2
      · rename_i hy
        rw [wanted_of h hgs hok1 (show want1 ops o ts = some false by simp [want1, hg, hy])]
        simp only [Bool.false_eq_true, if_false]
        refine next _ _ (step_done (k := fun x m' => x = .tup [] ∧ m' = m) hdo (h.gives (x := .tup []) (.rd _ _ (.tup [] #[] rfl fun i hi => absurd hi (Nat.not_lt_zero _))) (fun _ _ hl => by cases hl) ⟨rfl, rfl, rfl⟩) fun x m' ⟨h1, h2⟩ => ?_)
        rw [h1, h2]; exact hsl
      · exact hsl.elim

theorem count_ge {f : Nat → Bool} {n : Nat} : ∀ N, (∀ i, n ≤ i → i < N → f i = true) → N - n ≤ (List.range N).countP f
  | 0, _ => by omega
  | N + 1, h => by
    rw [List.range_succ, List.countP_append]
    have := count_ge (f := f) (n := n) N fun i h1 h2 => h i h1 (by omega)
    by_cases e : n ≤ N
    · have h1 := h N e (by omega)
      have h2 : List.countP f [N] = 1 := by simp [h1]
      omega
    · omega

theorem take_get {n i : Nat} (h : i < n) : (ops.take n)[i]? = ops[i]? := by rw [List.getElem?_take]; simp [h]
def gLow (n : Nat) (ops : List Oper) : Bool := (ops.take n).all fun o => match o.guard with | some (j, _) => decide (j < n) | none => true
theorem want1_take {n j : Nat} {o : Oper} (hg : gLow n ops = true) (ho : (ops.take n)[j]? = some o) (ts : Env) : want1 (ops.take n) o ts = want1 ops o ts := by
  have := List.all_eq_true.1 hg o (List.mem_of_getElem? ho)
  unfold want1
  cases hg : o.guard with
  | none => rfl
  | some iv =>
    obtain ⟨i, v⟩ := iv
    rw [hg] at this
    simp only [decide_eq_true_eq] at this
    simp only [dstOf]
    rw [take_get this]

theorem solo_sound {n : Nat} (hn : n ≤ ops.length) (hs : soloB ops n = true) (hgl : gLow n ops = true) {ts0 : Env} {m0 : Mem} (hR : Ran P 0 (ops.take n) os qs tr ts0 m0) (hB : drawB (ops.take n) tr = true) (hok : opsOk N ops = true) (hgs : guardsOk N ops = true) {Q : Exit → Act → World → Prop} {K : St}
    (hK : sL P ops (ops.drop n) (Stt os qs (fun _ => true) ts0 m0 n).1 (Stt os qs (fun _ => true) ts0 m0 n).2 K) (hQ : ∀ a w, Done B N K a w → Q .normal a w) :
    ∀ (fuel : Nat) (listed : Array Bool) (φ : Nat → LS) (fp : Nat → List Nat) (S : Nat → Prop) (a : Act) (w : World), listed.size = ops.length → Closed ops (fun i => listed.getD i false) → (∀ i, n ≤ i → listed.getD i false = false) → unl ops.length listed ≤ fuel →
      RS B N φ fp S (Stt os qs (fun i => listed.getD i false) ts0 m0 n).1 (Stt os qs (fun i => listed.getD i false) ts0 m0 n).2 a w → wpAny P .any ops.toArray Q fuel listed a w := by
  have hlen : (ops.take n).length = n := by simp; omega
  have hback := back_of hs
  have full : ∀ (fuel : Nat) (listed : Array Bool) (φ : Nat → LS) (fp : Nat → List Nat) (S : Nat → Prop) (a : Act) (w : World), listed.size = ops.length → (∀ i, n ≤ i → listed.getD i false = false) → unl ops.length listed ≤ fuel →
      (∀ i, i < n → listed.getD i false = true) → RS B N φ fp S (Stt os qs (fun i => listed.getD i false) ts0 m0 n).1 (Stt os qs (fun i => listed.getD i false) ts0 m0 n).2 a w → wpAny P .any ops.toArray Q fuel listed a w := by
    intro fuel listed φ fp S a w hsz hlo hf hall h
    have e : Stt os qs (fun i => listed.getD i false) ts0 m0 n = Stt os qs (fun _ => true) ts0 m0 n := Stt_prefix n (Nat.le_refl _) fun q hq => hall q hq
    rw [e] at h
    refine tail_sound hs hok hgs hQ _ n fuel listed φ fp S _ _ a w rfl (Nat.le_refl _) hn ⟨hsz, fun i _ => ?_⟩ ?_ h hK
    · by_cases hi : i < n
      · rw [hall i hi]; simp [hi]
      · rw [hlo i (by omega)]; simp [hi]
    · refine Nat.le_trans (count_ge _ fun i h1 _ => ?_) hf
      rw [hlo i h1]; rfl
  intro fuel
  induction fuel with
  | zero =>
    intro listed φ fp S a w hsz hc hlo hf h
    refine full 0 listed φ fp S a w hsz hlo hf (fun i hi => ?_) h
    cases hl : listed.getD i false with
    | true => rfl
    | false =>
      have h0 : unl ops.length listed = 0 := Nat.le_zero.1 hf
      have := List.countP_eq_zero.1 h0 i (List.mem_range.2 (by omega))
      rw [hl] at this; exact absurd rfl this
  | succ fuel ih =>
    intro listed φ fp S a w hsz hc hlo hf h
    by_cases hall : ∀ i, i < n → listed.getD i false = true
    · exact full _ listed φ fp S a w hsz hlo hf hall h
    · obtain ⟨i0, hi0⟩ := Classical.not_forall.1 hall
      obtain ⟨hi0n, hi0⟩ := Classical.not_imp.1 hi0
      have hi0 : listed.getD i0 false = false := by simpa using hi0
      refine ⟨fun hr => ?_, fun j hj => ?_⟩
      · exfalso
        have : ∀ i, i < ops.length → listed.getD i false = true := by
          intro i
          induction i using Nat.strongRecOn with
          | ind i ih =>
            intro hi
            cases hl : listed.getD i false with
            | true => rfl
            | false =>
              have ho : ops[i]? = some ops[i] := List.getElem?_eq_getElem hi
              have : i ∈ Region.ready .any ops.toArray listed := mem_ready.2 ⟨getD_in (by omega) hl, ops[i], by simpa using ho, fun e he hb => by
                have hp : e.on ∈ preds ops[i] := List.mem_map.2 ⟨e, List.mem_filter.2 ⟨by simpa using he, hb⟩, rfl⟩
                have hlt := hback i _ ho _ hp
                exact ih e.on hlt (by omega)⟩
              rw [hr] at this; cases this
        rw [this i0 (by omega)] at hi0; cases hi0
      · obtain ⟨h0, o, ho, hpre⟩ := mem_ready.1 hj
        have hdj : listed.getD j false = false := getD_both h0
        have ho' : ops[j]? = some o := by simpa using ho
        have hjn : j < ops.length := (List.getElem?_eq_some_iff.1 ho').1
        have hp : ∀ i, i ∈ preds o → listed.getD i false = true := by
          intro i hi
          obtain ⟨e, he, rfl⟩ := List.mem_map.1 hi
          obtain ⟨he1, he2⟩ := List.mem_filter.1 he
          exact hpre e (by simpa using he1) he2
        have hjn' : j < n := by
          rcases Nat.lt_or_ge j n with hlt | hge
          · exact hlt
          · have := solo_out hs (hc.add ho' hp) hjn hge (by simp [addD]) i0 (by omega)
            simp only [addD, hi0, Bool.false_or, beq_iff_eq] at this
            omega
        have hot : (ops.take n)[j]? = some o := (take_get hjn').trans ho'
        have hct : Closed (ops.take n) (fun i => listed.getD i false) := fun k ok hk => by
          have hkn := (List.getElem?_eq_some_iff.1 hk).1
          rw [hlen] at hkn
          exact hc k ok ((take_get hkn).symm.trans hk)
        obtain ⟨⟨rd, hya⟩, hlk, hlb⟩ := hR.turn (D := fun i => listed.getD i false) hB hct (fun i hi => by
          rw [hlen]
          rcases Nat.lt_or_ge i n with h' | h'
          · exact h'
          · rw [hlo i h'] at hi; cases hi) (fun i hi => absurd hi (Nat.not_lt_zero _)) hot hdj hp
        rw [hlen] at hya hlk hlb
        have hD' : (fun i => (listed.setIfInBounds j true).getD i false) = addD (fun i => listed.getD i false) j := by
          funext i
          by_cases e : i = j
          · subst e
            simp [addD, hsz, hjn]
          · have e2 : (i == j) = false := by simpa using e
            rw [getD_set_ne false (Ne.symm e)]
            simp [addD, e2]
        have hf' : unl ops.length (listed.setIfInBounds j true) ≤ fuel := by
          have : unl ops.length (listed.setIfInBounds j true) < unl ops.length listed := by
            refine countP_lt _ j (List.mem_range.2 hjn) (by simp only [hdj]; rfl) (by simp [hsz, hjn]) fun i hi => ?_
            by_cases e : i = j
            · subst e; rw [hdj]; rfl
            · rw [getD_set_ne false (Ne.symm e)] at hi; exact hi
          omega
        have next : ∀ a' w', Done B N (fun ts m => ts = putE o.dst (qs j).x (Stt os qs (fun i => listed.getD i false) ts0 m0 n).1 ∧ m = (qs j).new ++ (Stt os qs (fun i => listed.getD i false) ts0 m0 n).2) a' w' →
            wpAny P .any ops.toArray Q fuel (listed.setIfInBounds j true) a' w' := by
          rintro a' w' ⟨φ', fp', S', ts', m', h', rfl, rfl⟩
          refine ih _ φ' fp' S' a' w' (by simp [hsz]) (by rw [hD']; exact hc.add ho' hp) (fun i hi => ?_) hf' ?_
          · rw [getD_set_ne false (by omega)]; exact hlo i hi
          · rw [hD']
            exact h'.ext hlk hlb
        have hdo : ∀ d, o.dst = some d → d < N := by
          intro d hd
          have := List.all_eq_true.1 hok o (List.mem_of_getElem? ho')
          rw [hd] at this; simpa using this
        have hwt := want1_take hgl hot
        unfold wpOp
        simp only [ho]
        rcases hya with ⟨hw, _, hrun⟩ | ⟨hw, hx, hnew⟩
        · rw [hwt] at hw
          rw [wanted_of h hgs ho' hw]
          simp only [if_true]
          refine .inl (op_sound h (sOp_of_D (hrun _ (fun _ _ => rfl) (fun _ _ => rfl) (fun x m' => x = (qs j).x ∧ m' = (qs j).new ++ (Stt os qs (fun i => listed.getD i false) ts0 m0 n).2) ⟨rfl, rfl⟩)) fun v w' hg => ?_)
          exact next _ _ (step_done hdo hg fun x m' ⟨h1, h2⟩ => ⟨by rw [h1], h2⟩)
        · rw [hwt] at hw
          rw [wanted_of h hgs ho' hw]
          simp only [Bool.false_eq_true, if_false]
          refine next _ _ (step_done (k := fun x m' => x = .tup [] ∧ m' = (Stt os qs (fun i => listed.getD i false) ts0 m0 n).2) hdo (h.gives (x := .tup []) (.rd _ _ (.tup [] #[] rfl fun i hi => absurd hi (Nat.not_lt_zero _))) (fun _ _ hl => by cases hl) ⟨rfl, rfl, rfl⟩) fun x m' ⟨h1, h2⟩ => ⟨by rw [h1, hx], by rw [h2, hnew]; rfl⟩)
end

/-- A region that draws its order and whose operations from n on each wait for all before them. -/
theorem Later.solo (n : Nat) {P : Program} {N i : Nat} {ops : List Oper} {ts : Env} {m : Mem} {Q : Post} {q : Pack (Code.region i ⟨ops⟩ true, Q)} (hm : P.follows .mixedOrders = true) (hok : (opsOk N ops && guardsOk N ops && (gLow n ops && (soloB ops n && decide (n ≤ ops.length)))) = true)
    (h : sD P (ops.take n) (ops.take n) ts m [] fun ts' m' => sL P ops (ops.drop n) ts' m' (Q .normal)) : Later P N (.region i ⟨ops⟩ true) ts m Q q := by
  refine ⟨fun B φ fp S a w hRS => ?_⟩
  simp only [Bool.and_eq_true, decide_eq_true_eq] at hok
  have hlen : (ops.take n).length = n := by simp; omega
  obtain ⟨qs, tr, hR, hB, hK, _⟩ := sD_out (os := fun i => (ops[i]?).getD default) (ts0 := ts) (m0 := m) (sk := 0) (fun i o _ ho => by
    have hi := (List.getElem?_eq_some_iff.1 ho).1
    rw [hlen] at hi
    rw [take_get hi] at ho
    simp [ho]) (ops.take n) 0 (fun _ => ⟨.undef, []⟩) [] ts m rfl (Nat.le_refl _) (Nat.zero_le _) rfl rfl (fun i o _ hi => absurd hi (Nat.not_lt_zero _)) h
  rw [hlen] at hK
  refine wp_region_any hm ?_
  refine solo_sound (B := B) (N := N) hok.2.2.2 hok.2.2.1 hok.2.1 hR hB hok.1.1 hok.1.2 hK (fun a w hd => hd) _ _ φ fp S a _ (by simp) ?_ ?_ ?_ ?_
  · intro j o _ hd
    have hd : (Array.replicate (List.toArray ops).size false).getD j false = true := hd
    rw [getD_replicate_false] at hd; cases hd
  · exact fun i _ => getD_replicate_false _ _
  · exact Nat.le_trans List.countP_le_length (by simp)
  · have e : (fun i => (Array.replicate (List.toArray ops).size false).getD i false) = fun _ => false := funext fun i => getD_replicate_false _ _
    have e2 := Stt_stop (os := fun i => (ops[i]?).getD default) (qs := qs) (D := fun _ => false) (ts := ts) (m := m) (j := 0) (fun _ _ => rfl) n (Nat.zero_le _)
    show RS B N φ fp S (Stt _ qs (fun i => (Array.replicate (List.toArray ops).size false).getD i false) ts m n).1 (Stt _ qs (fun i => (Array.replicate (List.toArray ops).size false).getD i false) ts m n).2 a { w with drawn := w.drawn + 1 }
    rw [e, e2]
    exact hRS.sameHeap rfl ⟨rfl, rfl, rfl⟩
end Go.Vc

/-
  A region that draws its order, with one operation that all before it go before and all behind it wait for: it may do what it likes.
-/
set_option linter.unusedVariables false
set_option linter.unusedSimpArgs false
set_option linter.unnecessarySimpa false
namespace Go.Vc

/-- From place n on each operation waits for all below n. -/
def waitB (ops : List Oper) (n : Nat) : Bool := backB ops && (List.range ops.length).all fun j => decide (j < n) || (List.range n).all fun i => ((ancsGo ops []).getD j []).contains i

section
variable {P : Program} {B : Base} {N : Nat} {φ : Nat → LS} {fp : Nat → List Nat} {S : Nat → Prop} {ts : Env} {m : Mem} {a : Act} {w : World}
variable {os : Nat → Oper} {qs : Nat → Rec} {D D' : Nat → Bool} {ops : List Oper} {tr : List (List Nat × List Nat)}

theorem wait_out {n : Nat} (h : waitB ops n = true) (hD : Closed ops D) {j : Nat} (hj : j < ops.length) (hn : n ≤ j) (hd : D j = true) : ∀ i, i < n → D i = true := by
  intro i hi
  simp only [waitB, Bool.and_eq_true, List.all_eq_true, List.mem_range, Bool.or_eq_true, decide_eq_true_eq, List.contains_eq_mem] at h
  rcases h.2 j hj with h1 | h1
  · omega
  · exact ancsGo_closed hD ops [] rfl (fun j x hx => by simp at hx) j i (h1 i hi) hd
theorem wait_back {n : Nat} (h : waitB ops n = true) : ∀ i o, ops[i]? = some o → ∀ p, p ∈ preds o → p < i := by
  intro i o ho p hp
  simp only [waitB, backB, Bool.and_eq_true, List.all_eq_true, List.mem_range] at h
  have := h.1 i (List.getElem?_eq_some_iff.1 ho).1
  rw [ho] at this
  simpa using List.all_eq_true.1 this p hp

/-- the operations below n, in whatever order -/
theorem pre_sound {n : Nat} (hn : n ≤ ops.length) (hs : waitB ops n = true) (hgl : gLow n ops = true) {ts0 : Env} {m0 : Mem} (hR : Ran P 0 (ops.take n) os qs tr ts0 m0) (hB : drawB (ops.take n) tr = true) (hok : opsOk N ops = true) (hgs : guardsOk N ops = true)
    {Q : Exit → Act → World → Prop} {KN : St} (hK : KN (Stt os qs (fun _ => true) ts0 m0 n).1 (Stt os qs (fun _ => true) ts0 m0 n).2)
    (hfull : ∀ (fuel : Nat) (listed : Array Bool) (φ : Nat → LS) (fp : Nat → List Nat) (S : Nat → Prop) (ts : Env) (m : Mem) (a : Act) (w : World), Upk ops n listed → ops.length - n ≤ fuel → RS B N φ fp S ts m a w → KN ts m → wpAny P .any ops.toArray Q fuel listed a w) :
    ∀ (fuel : Nat) (listed : Array Bool) (φ : Nat → LS) (fp : Nat → List Nat) (S : Nat → Prop) (a : Act) (w : World), listed.size = ops.length → Closed ops (fun i => listed.getD i false) → (∀ i, n ≤ i → listed.getD i false = false) → unl ops.length listed ≤ fuel →
      RS B N φ fp S (Stt os qs (fun i => listed.getD i false) ts0 m0 n).1 (Stt os qs (fun i => listed.getD i false) ts0 m0 n).2 a w → wpAny P .any ops.toArray Q fuel listed a w := by
  have hlen : (ops.take n).length = n := by simp; omega
  have hback := wait_back hs
  have full : ∀ (fuel : Nat) (listed : Array Bool) (φ : Nat → LS) (fp : Nat → List Nat) (S : Nat → Prop) (a : Act) (w : World), listed.size = ops.length → (∀ i, n ≤ i → listed.getD i false = false) → unl ops.length listed ≤ fuel →
      (∀ i, i < n → listed.getD i false = true) → RS B N φ fp S (Stt os qs (fun i => listed.getD i false) ts0 m0 n).1 (Stt os qs (fun i => listed.getD i false) ts0 m0 n).2 a w → wpAny P .any ops.toArray Q fuel listed a w := by
    intro fuel listed φ fp S a w hsz hlo hf hall h
    have e : Stt os qs (fun i => listed.getD i false) ts0 m0 n = Stt os qs (fun _ => true) ts0 m0 n := Stt_prefix n (Nat.le_refl _) fun q hq => hall q hq
    rw [e] at h
    refine hfull fuel listed φ fp S _ _ a w ⟨hsz, fun i _ => ?_⟩ ?_ h hK
    · by_cases hi : i < n
      · rw [hall i hi]; simp [hi]
      · rw [hlo i (by omega)]; simp [hi]
    · refine Nat.le_trans (count_ge _ fun i h1 _ => ?_) hf
      rw [hlo i h1]; rfl
  intro fuel
  induction fuel with
  | zero =>
    intro listed φ fp S a w hsz hc hlo hf h
    refine full 0 listed φ fp S a w hsz hlo hf (fun i hi => ?_) h
    cases hl : listed.getD i false with
    | true => rfl
    | false =>
      have h0 : unl ops.length listed = 0 := Nat.le_zero.1 hf
      have := List.countP_eq_zero.1 h0 i (List.mem_range.2 (by omega))
      rw [hl] at this; exact absurd rfl this
  | succ fuel ih =>
    intro listed φ fp S a w hsz hc hlo hf h
    by_cases hall : ∀ i, i < n → listed.getD i false = true
    · exact full _ listed φ fp S a w hsz hlo hf hall h
    · obtain ⟨i0, hi0⟩ := Classical.not_forall.1 hall
      obtain ⟨hi0n, hi0⟩ := Classical.not_imp.1 hi0
      have hi0 : listed.getD i0 false = false := by simpa using hi0
      refine ⟨fun hr => ?_, fun j hj => ?_⟩
      · exfalso
        have : ∀ i, i < ops.length → listed.getD i false = true := by
          intro i
          induction i using Nat.strongRecOn with
          | ind i ih =>
            intro hi
            cases hl : listed.getD i false with
            | true => rfl
            | false =>
              have ho : ops[i]? = some ops[i] := List.getElem?_eq_getElem hi
              have : i ∈ Region.ready .any ops.toArray listed := mem_ready.2 ⟨getD_in (by omega) hl, ops[i], by simpa using ho, fun e he hb => by
                have hp : e.on ∈ preds ops[i] := List.mem_map.2 ⟨e, List.mem_filter.2 ⟨by simpa using he, hb⟩, rfl⟩
                have hlt := hback i _ ho _ hp
                exact ih e.on hlt (by omega)⟩
              rw [hr] at this; cases this
        rw [this i0 (by omega)] at hi0; cases hi0
      · obtain ⟨h0, o, ho, hpre⟩ := mem_ready.1 hj
        have hdj : listed.getD j false = false := getD_both h0
        have ho' : ops[j]? = some o := by simpa using ho
        have hjn : j < ops.length := (List.getElem?_eq_some_iff.1 ho').1
        have hp : ∀ i, i ∈ preds o → listed.getD i false = true := by
          intro i hi
          obtain ⟨e, he, rfl⟩ := List.mem_map.1 hi
          obtain ⟨he1, he2⟩ := List.mem_filter.1 he
          exact hpre e (by simpa using he1) he2
        have hjn' : j < n := by
          rcases Nat.lt_or_ge j n with hlt | hge
          · exact hlt
          · have := wait_out hs (hc.add ho' hp) hjn hge (by simp [addD]) i0 hi0n
            simp only [addD, hi0, Bool.false_or, beq_iff_eq] at this
            omega
        have hot : (ops.take n)[j]? = some o := (take_get hjn').trans ho'
        have hct : Closed (ops.take n) (fun i => listed.getD i false) := fun k ok hk => by
          have hkn := (List.getElem?_eq_some_iff.1 hk).1
          rw [hlen] at hkn
          exact hc k ok ((take_get hkn).symm.trans hk)
        obtain ⟨⟨rd, hya⟩, hlk, hlb⟩ := hR.turn (D := fun i => listed.getD i false) hB hct (fun i hi => by
          rw [hlen]
          rcases Nat.lt_or_ge i n with h' | h'
          · exact h'
          · rw [hlo i h'] at hi; cases hi) (fun i hi => absurd hi (Nat.not_lt_zero _)) hot hdj hp
        rw [hlen] at hya hlk hlb
        have hD' : (fun i => (listed.setIfInBounds j true).getD i false) = addD (fun i => listed.getD i false) j := by
          funext i
          by_cases e : i = j
          · subst e
            simp [addD, hsz, hjn]
          · have e2 : (i == j) = false := by simpa using e
            rw [getD_set_ne false (Ne.symm e)]
            simp [addD, e2]
        have hf' : unl ops.length (listed.setIfInBounds j true) ≤ fuel := by
          have : unl ops.length (listed.setIfInBounds j true) < unl ops.length listed := by
            refine countP_lt _ j (List.mem_range.2 hjn) (by simp only [hdj]; rfl) (by simp [hsz, hjn]) fun i hi => ?_
            by_cases e : i = j
            · subst e; rw [hdj]; rfl
            · rw [getD_set_ne false (Ne.symm e)] at hi; exact hi
          omega
        have next : ∀ a' w', Done B N (fun ts m => ts = putE o.dst (qs j).x (Stt os qs (fun i => listed.getD i false) ts0 m0 n).1 ∧ m = (qs j).new ++ (Stt os qs (fun i => listed.getD i false) ts0 m0 n).2) a' w' →
            wpAny P .any ops.toArray Q fuel (listed.setIfInBounds j true) a' w' := by
          rintro a' w' ⟨φ', fp', S', ts', m', h', rfl, rfl⟩
          refine ih _ φ' fp' S' a' w' (by simp [hsz]) (by rw [hD']; exact hc.add ho' hp) (fun i hi => ?_) hf' ?_
          · rw [getD_set_ne false (by omega)]; exact hlo i hi
          · rw [hD']
            exact h'.ext hlk hlb
        have hdo : ∀ d, o.dst = some d → d < N := by
          intro d hd
          have := List.all_eq_true.1 hok o (List.mem_of_getElem? ho')
          rw [hd] at this; simpa using this
        have hwt := want1_take hgl hot
        unfold wpOp
        simp only [ho]
        rcases hya with ⟨hw, _, hrun⟩ | ⟨hw, hx, hnew⟩
        · rw [hwt] at hw
          rw [wanted_of h hgs ho' hw]
          simp only [if_true]
          refine .inl (op_sound h (sOp_of_D (hrun _ (fun _ _ => rfl) (fun _ _ => rfl) (fun x m' => x = (qs j).x ∧ m' = (qs j).new ++ (Stt os qs (fun i => listed.getD i false) ts0 m0 n).2) ⟨rfl, rfl⟩)) fun v w' hg => ?_)
          exact next _ _ (step_done hdo hg fun x m' ⟨h1, h2⟩ => ⟨by rw [h1], h2⟩)
        · rw [hwt] at hw
          rw [wanted_of h hgs ho' hw]
          simp only [Bool.false_eq_true, if_false]
          refine next _ _ (step_done (k := fun x m' => x = .tup [] ∧ m' = (Stt os qs (fun i => listed.getD i false) ts0 m0 n).2) hdo (h.gives (x := .tup []) (.rd _ _ (.tup [] #[] rfl fun i hi => absurd hi (Nat.not_lt_zero _))) (fun _ _ hl => by cases hl) ⟨rfl, rfl, rfl⟩) fun x m' ⟨h1, h2⟩ => ⟨by rw [h1, hx], by rw [h2, hnew]; rfl⟩)

/-- the operation at n -/
theorem one_sound {n : Nat} (hw : waitB ops (n + 1) = true) (hok : opsOk N ops = true) (hgs : guardsOk N ops = true) {o : Oper} (hon : ops[n]? = some o) {KC : St} {Q : Exit → Act → World → Prop} {fuel : Nat} {listed : Array Bool}
    (hu : Upk ops n listed) (h : RS B N φ fp S ts m a w) (hsl : sL P ops [o] ts m KC)
    (hcont : ∀ (φ : Nat → LS) (fp : Nat → List Nat) (S : Nat → Prop) (ts : Env) (m : Mem) (a : Act) (w : World), RS B N φ fp S ts m a w → KC ts m → wpAny P .any ops.toArray Q fuel (listed.setIfInBounds n true) a w) :
    wpAny P .any ops.toArray Q (fuel + 1) listed a w := by
  have hnl : n < ops.length := (List.getElem?_eq_some_iff.1 hon).1
  have hback := wait_back hw
  have hclosed : Closed ops (fun i => listed.getD i false) := by
    intro j oj hoj hdj i hi
    have hjn := (List.getElem?_eq_some_iff.1 hoj).1
    have h1 := hu.2 j hjn
    have h2 := hback j oj hoj i hi
    have h3 := hu.2 i (by omega)
    simp only at hdj ⊢
    rw [h1] at hdj
    rw [h3]
    simp at hdj ⊢; omega
  have hready : n ∈ Region.ready .any ops.toArray listed := by
    refine mem_ready.2 ⟨?_, o, by simpa using hon, fun e he hb => ?_⟩
    · have h5 : listed.getD n false = false := by rw [hu.2 n hnl]; exact decide_eq_false (Nat.lt_irrefl n)
      exact getD_in (by rw [hu.1]; exact hnl) h5
    · have hp : e.on ∈ preds o := List.mem_map.2 ⟨e, List.mem_filter.2 ⟨by simpa using he, hb⟩, rfl⟩
      have hlt := hback n o hon _ hp
      rw [hu.2 e.on (by omega)]; simpa using hlt
  refine ⟨fun hr => (by rw [hr] at hready; exact absurd hready List.not_mem_nil), fun j hj => ?_⟩
  obtain ⟨h0, oj, hoj, hpre⟩ := mem_ready.1 hj
  have hdj : listed.getD j false = false := getD_both h0
  have hoj' : ops[j]? = some oj := by simpa using hoj
  have hjn : j < ops.length := (List.getElem?_eq_some_iff.1 hoj').1
  have hjk : n ≤ j := by
    have := hu.2 j hjn
    rw [hdj] at this; simp at this; omega
  have hp : ∀ i, i ∈ preds oj → listed.getD i false = true := by
    intro i hi
    obtain ⟨e, he, rfl⟩ := List.mem_map.1 hi
    obtain ⟨he1, he2⟩ := List.mem_filter.1 he
    exact hpre e (by simpa using he1) he2
  have e : j = n := by
    rcases Nat.lt_or_ge n j with hlt | hge
    · have hadd := hclosed.add hoj' hp
      have := wait_out hw hadd hjn (by omega) (by simp [addD]) n (by omega)
      simp only [addD, hu.2 n hnl, Bool.or_eq_true, beq_iff_eq] at this
      simp at this; omega
    · omega
  subst e
  rw [hon] at hoj'
  injection hoj' with hoj'
  subst hoj'
  have hdo : ∀ d, o.dst = some d → d < N := by
    intro d hd
    have := List.all_eq_true.1 hok o (List.mem_of_getElem? hon)
    rw [hd] at this; simpa using this
  have next : ∀ a' w', Done B N KC a' w' → wpAny P .any ops.toArray Q fuel (listed.setIfInBounds j true) a' w' := by
    rintro a' w' ⟨φ', fp', S', ts', m', h', hk'⟩
    exact hcont φ' fp' S' ts' m' a' w' h' hk'
  unfold wpOp
  have hoA : ops.toArray[j]? = some o := by simpa using hon
  simp only [hoA]
  simp only [sL] at hsl
  cases hg : o.guard with
  | none =>
    rw [hg] at hsl
    rw [wanted_of h hgs hon (show want1 ops o ts = some true by simp [want1, hg])]
    simp only [if_true]
    exact .inl (op_sound h hsl fun v w' hgv => next _ _ (step_done hdo hgv fun x m' hx => hx))
  | some jw =>
    obtain ⟨g, want⟩ := jw
    rw [hg] at hsl
    simp only at hsl
    unfold sGuard at hsl
    split at hsl
    · rename_i c hy
      by_cases hcw : c = want
      · subst hcw
        rw [wanted_of h hgs hon (show want1 ops o ts = some true by simp [want1, hg, hy])]
        simp only [if_true]
        exact .inl (op_sound h (hsl.1 rfl) fun v w' hgv => next _ _ (step_done hdo hgv fun x m' hx => hx))
      · rw [wanted_of h hgs hon (show want1 ops o ts = some false by simp [want1, hg, hy, hcw])]
        simp only [Bool.false_eq_true, if_false]
        have hk2 := hsl.2 hcw
        refine next _ _ (step_done (k := fun x m' => x = .tup [] ∧ m' = m) hdo (h.gives (x := .tup []) (.rd _ _ (.tup [] #[] rfl fun i hi => absurd hi (Nat.not_lt_zero _))) (fun _ _ hl => by cases hl) ⟨rfl, rfl, rfl⟩) fun x m' ⟨h1, h2⟩ => ?_)
        rw [h1, h2]; exact hk2
    · rename_i hy
      rw [wanted_of h hgs hon (show want1 ops o ts = some false by simp [want1, hg, hy])]
      simp only [Bool.false_eq_true, if_false]
      refine next _ _ (step_done (k := fun x m' => x = .tup [] ∧ m' = m) hdo (h.gives (x := .tup []) (.rd _ _ (.tup [] #[] rfl fun i hi => absurd hi (Nat.not_lt_zero _))) (fun _ _ hl => by cases hl) ⟨rfl, rfl, rfl⟩) fun x m' ⟨h1, h2⟩ => ?_)
      rw [h1, h2]; exact hsl
    · exact hsl.elim
theorem Stt_idle {n : Nat} {x : AV} {ts : Env} {m : Mem} (f : Nat → Oper) (hd : ∀ i, i < n → (f i).dst = none) : ∀ i, i ≤ n → Stt f (fun _ => ⟨x, []⟩) (fun _ => true) ts m i = (ts, m)
  | 0, _ => rfl
  | i + 1, hi => by
    simp only [Stt, if_true]
    rw [Stt_idle f hd i (by omega), hd i (by omega)]
    rfl
end

def idleOp : Oper := { (default : Oper) with dst := none }

/-- A region that draws its order, with one operation (at n) that all below go before and all above wait for. -/
theorem Later.duo (n : Nat) {P : Program} {N i : Nat} {ops : List Oper} {ts : Env} {m : Mem} {Q : Post} {q : Pack (Code.region i ⟨ops⟩ true, Q)} (hm : P.follows .mixedOrders = true)
    (hok : (opsOk N ops && guardsOk N ops && (gLow n ops && (waitB ops n && (waitB ops (n + 1) && decide (n < ops.length))))) = true)
    (h : sD P (ops.take n) (ops.take n) ts m [] fun ts' m' => sL P ops ((ops.drop n).take 1) ts' m' fun ts'' m'' => sD P ops (ops.drop (n + 1)) ts'' m'' (List.replicate (n + 1) ([], [])) (Q .normal)) : Later P N (.region i ⟨ops⟩ true) ts m Q q := by
  refine ⟨fun B φ fp S a w hRS => ?_⟩
  simp only [Bool.and_eq_true, decide_eq_true_eq] at hok
  obtain ⟨⟨hok1, hok2⟩, hgl, hw, hw1, hn⟩ := hok
  have hlen : (ops.take n).length = n := by simp; omega
  obtain ⟨qs, tr, hR, hB, hK, _⟩ := sD_out (os := fun i => (ops[i]?).getD default) (ts0 := ts) (m0 := m) (sk := 0) (fun i o _ ho => by
    have hi := (List.getElem?_eq_some_iff.1 ho).1
    rw [hlen] at hi
    rw [take_get hi] at ho
    simp [ho]) (ops.take n) 0 (fun _ => ⟨.undef, []⟩) [] ts m rfl (Nat.le_refl _) (Nat.zero_le _) rfl rfl (fun i o _ hi => absurd hi (Nat.not_lt_zero _)) h
  rw [hlen] at hK
  have hon : ops[n]? = some ops[n] := List.getElem?_eq_getElem hn
  have hdt : (ops.drop n).take 1 = [ops[n]] := by rw [List.drop_eq_getElem_cons hn]; rfl
  rw [hdt] at hK
  refine wp_region_any hm ?_
  refine pre_sound (B := B) (N := N) (KN := fun ts' m' => sL P ops [ops[n]] ts' m' fun ts'' m'' => sD P ops (ops.drop (n + 1)) ts'' m'' (List.replicate (n + 1) ([], [])) (Q .normal)) (by omega) hw hgl hR hB hok1 hok2 hK ?_ _ _ φ fp S a _ (by simp) ?_ ?_ ?_ ?_
  · intro fuel listed φ fp S ts m a w hu hf h1 hsl
    obtain ⟨fuel, rfl⟩ : ∃ f, fuel = f + 1 := ⟨fuel - 1, by omega⟩
    refine one_sound hw1 hok1 hok2 hon hu h1 hsl fun φ fp S ts m a w h2 hsd => ?_
    have hsz : (listed.setIfInBounds n true).size = ops.length := by simp [hu.1]
    have hup : ∀ i, i < ops.length → (listed.setIfInBounds n true).getD i false = decide (i < n + 1) := by
      intro i hi
      by_cases e : i = n
      · subst e; simp [hu.1, hi]
      · rw [getD_set_ne false (Ne.symm e), hu.2 i hi]
        simp; omega
    have hid : ∀ i, i ≤ n + 1 → Stt (fun i => if i < n + 1 then idleOp else (ops[i]?).getD default) (fun _ => ⟨.undef, []⟩) (fun _ => true) ts m i = (ts, m) := Stt_idle (n := n + 1) _ fun i hi => by simp only [hi, if_true]; rfl
    obtain ⟨qs2, tr2, hR2, hB2, hK2, hq2⟩ := sD_out (os := fun i => if i < n + 1 then idleOp else (ops[i]?).getD default) (ts0 := ts) (m0 := m) (sk := n + 1) (fun i o hi ho => by simp only [Nat.not_lt.2 hi, if_false]; simp [ho]) (ops.drop (n + 1)) (n + 1)
      (fun _ => ⟨.undef, []⟩) (List.replicate (n + 1) ([], [])) ts m rfl (Nat.le_refl _) hn (by simp) (hid _ (Nat.le_refl _)) (fun i o h1 h2 => absurd h2 (Nat.not_lt.2 h1)) hsd
    have hst : Stt (fun i => if i < n + 1 then idleOp else (ops[i]?).getD default) qs2 (fun i => (listed.setIfInBounds n true).getD i false) ts m ops.length = (ts, m) := by
      rw [Stt_stop (j := n + 1) (fun q hq => by
        rcases Nat.lt_or_ge q ops.length with hql | hql
        · rw [hup q hql]; simp; omega
        · rw [Array.getD_eq_getD_getElem?, Array.getElem?_eq_none (by omega)]; rfl) ops.length hn]
      rw [Stt_qs (qs' := fun _ => ⟨.undef, []⟩) (n + 1) hq2]
      have hidle : ∀ (D : Nat → Bool) i, i ≤ n + 1 → Stt (fun i => if i < n + 1 then idleOp else (ops[i]?).getD default) (fun _ => ⟨.undef, []⟩) D ts m i = (ts, m) := by
        intro D i
        induction i with
        | zero => intro _; rfl
        | succ i ih =>
          intro hi
          simp only [Stt]
          rw [ih (by omega)]
          cases D i with
          | false => rfl
          | true => simp only [if_true, show i < n + 1 by omega]; rfl
      exact hidle _ _ (Nat.le_refl _)
    refine any_sound (B := B) (N := N) hR2 hB2 hok1 hok2 hK2 (fun a w hd => hd) _ _ φ fp S a w hsz ?_ (fun i hi => by rw [hup i (by omega)]; simpa using hi) ?_ (by rw [hst]; exact h2)
    · intro j oj hoj hdj i hi
      have hjn := (List.getElem?_eq_some_iff.1 hoj).1
      have h3 := wait_back hw1 j oj hoj i hi
      have hdj : (listed.setIfInBounds n true).getD j false = true := hdj
      show (listed.setIfInBounds n true).getD i false = true
      rw [hup j hjn] at hdj
      rw [hup i (by omega)]
      simp at hdj ⊢; omega
    · have hc : unl ops.length (listed.setIfInBounds n true) ≤ ops.length - (n + 1) := by
        unfold unl
        have : ∀ N, (∀ i, i < N → i < ops.length) → (List.range N).countP (fun i => !(listed.setIfInBounds n true).getD i false) ≤ N - (n + 1) := by
          intro N hN
          induction N with
          | zero => simp
          | succ N ih =>
            have ih := ih fun i hi => hN i (by omega)
            rw [List.range_succ, List.countP_append, List.countP_cons, List.countP_nil, hup N (hN N (by omega))]
            by_cases e : N < n + 1
            · simp only [decide_eq_true e, Bool.not_true, Bool.false_eq_true, if_false]; omega
            · simp only [decide_eq_false e, Bool.not_false, if_true]; omega
        exact this _ fun i hi => hi
      omega
  · intro j o _ hd
    have hd : (Array.replicate (List.toArray ops).size false).getD j false = true := hd
    rw [getD_replicate_false] at hd; cases hd
  · exact fun i _ => getD_replicate_false _ _
  · exact Nat.le_trans List.countP_le_length (by simp)
  · have e : (fun i => (Array.replicate (List.toArray ops).size false).getD i false) = fun _ => false := funext fun i => getD_replicate_false _ _
    have e2 := Stt_stop (os := fun i => (ops[i]?).getD default) (qs := qs) (D := fun _ => false) (ts := ts) (m := m) (j := 0) (fun _ _ => rfl) n (Nat.zero_le _)
    show RS B N φ fp S (Stt _ qs (fun i => (Array.replicate (List.toArray ops).size false).getD i false) ts m n).1 (Stt _ qs (fun i => (Array.replicate (List.toArray ops).size false).getD i false) ts m n).2 a { w with drawn := w.drawn + 1 }
    rw [e, e2]
    exact hRS.sameHeap rfl ⟨rfl, rfl, rfl⟩
end Go.Vc

/-
  Calls of functions that write blocks of their caller's which name each other (boxes that hold labels): contracts that keep the labels, for recursion by closures.
-/
set_option linter.unusedVariables false
set_option linter.unusedSimpArgs false
set_option linter.unnecessarySimpa false
namespace Go.Vc

def keys (m : Mem) : List Nat := m.map (·.1)
theorem keys_nil : keys [] = [] := rfl
theorem keys_cons (l : Nat) (b : Blk) (r : Mem) : keys ((l, b) :: r) = l :: keys r := rfl
theorem in_keys {m : Mem} {l : Nat} (h : lookB m l ≠ none) : l ∈ keys m := by
  induction m with
  | nil => exact absurd rfl h
  | cons p r ih =>
    obtain ⟨k, v⟩ := p
    rw [lookB_cons] at h
    by_cases e : k = l
    · simp [keys, e]
    · rw [if_neg e] at h
      exact List.mem_cons_of_mem _ (ih h)
theorem of_keys {m : Mem} {l : Nat} (h : l ∈ keys m) : lookB m l ≠ none := by
  induction m with
  | nil => cases h
  | cons p r ih =>
    obtain ⟨k, v⟩ := p
    rw [lookB_cons]
    by_cases e : k = l
    · rw [if_pos e]; exact fun h => by cases h
    · rw [if_neg e]
      refine ih ?_
      rcases List.mem_cons.1 h with h | h
      · exact absurd h.symm e
      · exact h
/-- the labels that a memory's boxes hold are among these -/
def okM (L : List Nat) (m : Mem) : Prop := (∀ l, lookB m l ≠ none → l ∈ L) ∧ ∀ l v xs, lookB m l = some (.box v xs) → ∀ p, p ∈ labsL xs → p.1 ∈ L
def keepsM (L : List Nat) (m m' : Mem) : Prop := (∀ l, l ∈ L → lookB m' l = lookB m l) ∧ okM L m'

def resφ (L : List Nat) (φ : Nat → LS) (l : Nat) : LS := if l ∈ L then φ l else .dead
def resF (L : List Nat) (fp : Nat → List Nat) (l : Nat) : List Nat := if l ∈ L then fp l else []
theorem resφ_in {L : List Nat} {φ : Nat → LS} {l : Nat} (h : l ∈ L) : resφ L φ l = φ l := if_pos h
theorem resF_in {L : List Nat} {fp : Nat → List Nat} {l : Nat} (h : l ∈ L) : resF L fp l = fp l := if_pos h
theorem mem_resF {L : List Nat} {fp : Nat → List Nat} {l b : Nat} (h : b ∈ resF L fp l) : l ∈ L ∧ b ∈ fp l := by
  unfold resF at h
  split at h
  · exact ⟨‹_›, h⟩
  · cases h

section
variable {P : Program} {B : Base} {N : Nat} {φ : Nat → LS} {fp : Nat → List Nat} {S : Nat → Prop} {ts : Env} {m : Mem} {a : Act} {w : World}

theorem RS.sub (h : RS B N φ fp S ts m a w) {L : List Nat} {m' : Mem} (hk : keepsM L m m') (hb : ∀ l, lookB B.m0 l ≠ none → l ∈ L) :
    RS B 0 (resφ L φ) (resF L fp) S [] m' { tmps := #[], defers := [] } w := by
  obtain ⟨k1, k2, k3⟩ := hk
  refine { tm := fun t => by rw [look_nil]; exact .rd _ _ (.undef _), tl := fun t l ver hl => (by rw [look_nil] at hl; cases hl), mNone := fun l hl => ?_, mSome := fun l b hb => ?_, bl := fun l v xs hb l' ver hl => ?_,
           nod := fun l => ?_, dis := fun l l' b h1 h2 => h.dis l l' b (mem_resF h1).2 (mem_resF h2).2, notS := fun l b hb => h.notS l b (mem_resF hb).2, fpB := fun l b hb => h.fpB l b (mem_resF hb).2,
           sB := h.sB, base := h.base, out := h.out, szs := h.szs, kn := fun l ver hl hk => ?_, fix := fun l ver hl hk => ?_, size := h.size, defers := rfl, tsz := rfl, kon := h.kon }
  · by_cases hm : l ∈ L
    · rw [resφ_in hm, resF_in hm]
      rw [k1 l hm] at hl
      exact h.mNone l hl
    · unfold resφ resF
      rw [if_neg hm, if_neg hm]; exact ⟨rfl, rfl⟩
  · have hm := k2 l (by rw [hb]; exact fun e => by cases e)
    have hb2 := hb
    rw [k1 l hm] at hb2
    rw [resF_in hm]
    refine (h.mSome l b hb2).mono (fun _ _ => rfl) (fun _ h => h) (fun l b sh ver cs e _ hb => ⟨cs, e, hb, rfl⟩) (fun _ _ => rfl) (resφ_in hm) fun v xs e l' ver hl' => ?_
    subst e
    rw [resφ_in (k3 l v xs hb _ hl')]
    exact LS.le_refl _ _
  · have hm := k2 l (by rw [hb]; exact fun e => by cases e)
    have hb2 := hb
    rw [k1 l hm] at hb2
    obtain ⟨k, h1, h2⟩ := h.bl l v xs hb2 l' ver hl
    exact ⟨k, (k1 l' (k3 l v xs hb _ hl)).trans h1, h2⟩
  · unfold resF; split
    · exact h.nod l
    · exact List.nodup_nil
  · obtain ⟨k, h1, h2⟩ := h.kn l ver hl hk
    obtain ⟨k0, h3, _⟩ := hk
    exact ⟨k, (k1 l (hb l (by rw [h3]; exact fun e => by cases e))).trans h1, h2⟩
  · obtain ⟨k0, h3, h4⟩ := hk
    rw [resφ_in (hb l (by rw [h3]; exact fun e => by cases e))]
    exact h.fix l ver hl ⟨k0, h3, h4⟩
end

def baseH (w : World) (φ : Nat → LS) (fp : Nat → List Nat) (S : Nat → Prop) (m0 : Mem) : Base := ⟨w, fun l b => b ∈ fp l, S, φ, m0⟩

/-- A contract over the memory m0: called there with xs, it returns a value without labels, and leaves a memory with the same labels. -/
def FnH (P : Program) (f : FuncId) (m0 : Mem) (xs : List AV) (post : AV → Mem → Prop) : Prop :=
  Enters P f ∧ ∀ (w : World) (φ : Nat → LS) (fp : Nat → List Nat) (S : Nat → Prop) (vs : Array Value), vs.size = xs.length →
    RS (baseH w φ fp S m0) vs.size φ fp S (argsE 0 xs) m0 { tmps := vs, defers := [] } w →
    Calls P f vs w fun e w' => ∃ x v m' φ' fp' S', e = .returned v ∧ post x m' ∧ RV w' S' φ' x v ∧ labs x = [] ∧ okM (keys m0) m' ∧ RS (baseH w φ fp S m0) 0 φ' fp' S' [] m' { tmps := #[], defers := [] } w'

theorem FnH.mono {P : Program} {f : FuncId} {m0 : Mem} {xs : List AV} {post post' : AV → Mem → Prop} (h : FnH P f m0 xs post) (hp : ∀ r m', post r m' → post' r m') : FnH P f m0 xs post' :=
  ⟨h.1, fun w φ fp S vs h1 h2 => (h.2 w φ fp S vs h1 h2).mono fun _ _ ⟨x, v, m', φ', fp', S', g1, g2, g3⟩ => ⟨x, v, m', φ', fp', S', g1, hp _ _ g2, g3⟩⟩

def finH (P : Program) (rs : List ResultVar) (L : List Nat) (post : AV → Mem → Prop) : Post
  | .normal => fun ts m => sResults P (fun ys => labsL ys = [] ∧ ∃ m', post (mkRes ys) m' ∧ keepsM L m m') rs ts m []
  | .ret => fun ts m => sResults P (fun ys => labsL ys = [] ∧ ∃ m', post (mkRes ys) m' ∧ keepsM L m m') rs ts m []
  | _ => fun _ _ => False
theorem finH_normal (P : Program) (rs : List ResultVar) (L : List Nat) (post : AV → Mem → Prop) (ts : Env) (m : Mem) :
    finH P rs L post .normal ts m = sResults P (fun ys => labsL ys = [] ∧ ∃ m', post (mkRes ys) m' ∧ keepsM L m m') rs ts m [] := rfl
theorem finH_ret (P : Program) (rs : List ResultVar) (L : List Nat) (post : AV → Mem → Prop) (ts : Env) (m : Mem) :
    finH P rs L post .ret ts m = sResults P (fun ys => labsL ys = [] ∧ ∃ m', post (mkRes ys) m' ∧ keepsM L m m') rs ts m [] := rfl

theorem labs_mkRes {ys : List AV} (h : labsL ys = []) : labs (mkRes ys) = [] := by
  match ys, h with
  | [], _ => simp [mkRes, labs, labsL]
  | [y], h => simpa [mkRes, labsL] using h
  | y :: y' :: r, h => rw [mkRes_two]; simpa [labs] using h

theorem FnH.of_vc' {P : Program} {f : FuncId} {fn : Func} {c : Code} {m0 : Mem} {xs : List AV} {post : AV → Mem → Prop} (hf : P.funcs[f]? = some fn) (hn : (fn.name == "runtime.NumGoroutine") = false) (hb : fn.body = some c)
    (hok : codeOk fn.ntmps c = true) (ha : xs.length ≤ fn.ntmps) (hv : vc P fn.ntmps c (argsE 0 xs) m0 (finH P fn.results.toList (keys m0) post)) : FnH P f m0 xs post := by
  refine ⟨⟨fn, c, hf, hn, hb⟩, fun w φ fp S vs hsz hR0 => ?_⟩
  refine calls_of_wp hf hb ?_
  have hRS : RS (baseH w φ fp S m0) fn.ntmps φ fp S (argsE 0 xs) m0 { tmps := vs ++ Array.replicate (fn.ntmps - vs.size) undef, defers := [] } w := by
    refine { hR0 with tm := fun t => ?_, defers := rfl, tsz := by simp; omega }
    by_cases h : t < xs.length
    · have h1 := hR0.tm t
      have : vs.getD t Go.undef = (vs ++ Array.replicate (fn.ntmps - vs.size) undef).getD t Go.undef := by
        have h2 : t < vs.size := by omega
        simp only [Array.getD_eq_getD_getElem?]
        rw [Array.getElem?_append_left h2]
      rw [← this]; exact h1
    · rw [look_argsE]
      have : (if 0 ≤ t then (xs[t - 0]?).getD AV.undef else .undef) = .undef := by simp [List.getElem?_eq_none (show xs.length ≤ t by omega)]
      rw [this]; exact .rd _ _ (.undef _)
  have hend : ∀ a' w', Done (baseH w φ fp S m0) fn.ntmps (fun ts m => sResults P (fun ys => labsL ys = [] ∧ ∃ m', post (mkRes ys) m' ∧ keepsM (keys m0) m m') fn.results.toList ts m []) a' w' →
      a'.defers = [] ∧ ∃ v, (results fn a'.tmps).run P w' = .ok v w' ∧ ∃ x v' m' φ' fp' S', Ending.returned v = .returned v' ∧ post x m' ∧ RV w' S' φ' x v' ∧ labs x = [] ∧ okM (keys m0) m' ∧ RS (baseH w φ fp S m0) 0 φ' fp' S' [] m' { tmps := #[], defers := [] } w' := by
    rintro a' w' ⟨φ', fp', S', ts', m', h', hk⟩
    refine ⟨h'.defers, ?_⟩
    obtain ⟨ys, us, ⟨hlab, m2, hpost, hkeep⟩, h2, h3, h4⟩ := results_out' h' fn.results.toList [] [] ⟨rfl, fun i hi => absurd hi (Nat.not_lt_zero _)⟩ (fun i hi => absurd hi (Nat.not_lt_zero _)) hk
    obtain ⟨h3a, h3b⟩ := h3
    simp only [List.nil_append] at h3a h3b
    refine ⟨if h : us.toArray.size = 1 then us.toArray[0] else .tuple us.toArray, ?_, mkRes ys, _, m2, resφ (keys m0) φ', resF (keys m0) fp', S', rfl, hpost, ?_, labs_mkRes hlab, hkeep.2, h'.sub hkeep fun l hl => in_keys hl⟩
    · have hm : results fn a'.tmps = (do let vs ← fn.results.mapM (resOne a'.tmps); pure (if h : vs.size = 1 then vs[0] else .tuple vs)) := by
        unfold results
        congr 1
      rw [hm, Sem.run_bind, Array.mapM_eq_mapM_toList]
      have : (List.toArray <$> fn.results.toList.mapM (resOne a'.tmps) : Sem (Array Value)).run P w' = .ok us.toArray w' := by
        rw [map_eq_pure_bind, Sem.run_bind, h2]; rfl
      rw [this]; rfl
    · refine (mkRes_rv h3a h3b).mono (fun _ _ => rfl) (fun _ h => h) (fun l b sh ver cs e _ hb => ⟨cs, e, hb, rfl⟩) fun l ver hl => ?_
      rw [labs_mkRes hlab] at hl; cases hl
  refine wp_mono (vc_sound c _ _ _ hok hv _ _ _ _ _ _ hRS) ?_
  intro e a' w' hq
  cases e with
  | normal => exact hend a' w' hq
  | ret => exact hend a' w' hq
  | _ => obtain ⟨_, _, _, _, _, _, hh⟩ := hq; exact hh.elim

theorem FnH.of_vc {P : Program} {f : FuncId} {fn : Func} {c : Code} {m0 : Mem} {xs : List AV} {post : AV → Mem → Prop} (N : Nat) (rs : List ResultVar) (hf : P.funcs[f]? = some fn) (hN : fn.ntmps = N) (hr : fn.results.toList = rs)
    (hn : (fn.name == "runtime.NumGoroutine") = false) (hb : fn.body = some c) (hok : codeOk N c = true) (ha : xs.length ≤ N) (hv : vc P N c (argsE 0 xs) m0 (finH P rs (keys m0) post)) : FnH P f m0 xs post := by
  subst hN; subst hr; exact FnH.of_vc' hf hn hb hok ha hv

theorem lookB_appL {m' m : Mem} {l : Nat} {b : Blk} (h : lookB m' l = some b) : lookB (m' ++ m) l = some b := by
  induction m' with
  | nil => cases h
  | cons p r ih =>
    obtain ⟨k, v⟩ := p
    rw [List.cons_append, lookB_cons]
    rw [lookB_cons] at h
    by_cases e : k = l
    · rw [if_pos e] at h ⊢; exact h
    · rw [if_neg e] at h ⊢; exact ih h
theorem lookB_appR {m' m : Mem} {l : Nat} (h : lookB m' l = none) : lookB (m' ++ m) l = lookB m l := by
  induction m' with
  | nil => rfl
  | cons p r ih =>
    obtain ⟨k, v⟩ := p
    rw [List.cons_append, lookB_cons]
    rw [lookB_cons] at h
    by_cases e : k = l
    · rw [if_pos e] at h; cases h
    · rw [if_neg e] at h ⊢; exact ih h

/-- A call, with what the caller's upper blocks may share afterwards. -/
def sCallF (P : Program) (f : FuncId) (xs : List AV) (m : Mem) (k : AV → Mem → Prop) : Prop :=
  Enters P f ∧ ∀ (B : Base) (N : Nat) (φ : Nat → LS) (fp : Nat → List Nat) (S : Nat → Prop) (ts : Env) (a : Act) (w : World) (vs : Array Value), RS B N φ fp S ts m a w → vs.size = xs.length →
    (∀ i (h : i < xs.length), RV w S φ xs[i] (vs.toList.getD i Go.undef)) → (∀ i (h : i < xs.length) l ver, (l, ver) ∈ labs xs[i] → known m l ver) →
    Calls P f vs w fun e w' => ∃ v, e = .returned v ∧ ∃ φ' fp' S' m' x, RS B N φ' fp' S' ts m' a w' ∧ RV w' S' φ' x v ∧ (∀ l ver, (l, ver) ∈ labs x → known m' l ver) ∧ k x m' ∧
        ∀ l, lookB m l ≠ none → ioL ≤ l → ∀ b, b ∈ fp' l → w.heap.size ≤ b ∨ b ∈ fp l

theorem sCallF.io {P : Program} {f : FuncId} {xs : List AV} {m : Mem} {k : AV → Mem → Prop} (h : sCallF P f xs m k) : sCallIo P f xs m k := by
  intro B N φ fp S ts a w vs hRS hsz hx hxl
  refine ⟨h.1, (h.2 B N φ fp S ts a w vs hRS hsz hx hxl).mono ?_⟩
  rintro e w' ⟨v, rfl, φ', fp', S', m', x, g1, g2, g3, g4, _⟩
  exact ⟨v, rfl, φ', fp', S', ts, m', x, g1, g2, g3, rfl, g4⟩

theorem sCallF.ren {P : Program} {f : FuncId} : ∀ (ρ : List (Nat × Nat)) {xs : List AV} {m : Mem} {k : AV → Mem → Prop}, renOk ρ m → sCallF P f (rnsL ρ xs) (rnsM ρ m) (fun x m' => k (rnsAb ρ x) (rnsMb ρ m')) → sCallF P f xs m k
  | [], xs, m, k, _, h => by
    simp only [rnsM, rnsL] at h
    rw [show xs.map (rnsA []) = xs from by rw [show rnsA [] = id from rfl, List.map_id]] at h
    exact h
  | (l, l') :: r, xs, m, k, ⟨⟨⟨hl, hio⟩, hh, hl'⟩, hok2⟩, hv => by
    have hlen : (rnL l l' xs).length = xs.length := rnL_length l l' xs
    have e9 : rnsL r (rnL l l' xs) = rnsL ((l, l') :: r) xs := by
      refine List.ext_getElem (by simp [rnsL, hlen]) fun i h1 h2 => ?_
      simp only [rnsL, List.getElem_map]
      rw [rnL_get l l' xs i (by simpa [rnsL] using h2)]; rfl
    have hrec := sCallF.ren r (k := fun x m' => k (rnA l l' x) (rnM l l' m')) (xs := rnL l l' xs) hok2 (by rw [e9]; exact hv)
    refine ⟨hrec.1, fun B N φ fp S ts a w vs h hsz hx hxl => ?_⟩
    have hm0 : lookB B.m0 l' = none := by
      cases he : lookB B.m0 l' with
      | none => rfl
      | some k0 =>
        obtain ⟨k2, h7, _⟩ := h.kn l' k0.ver hio ⟨k0, he, Nat.le_refl _⟩
        rw [show lookB m l' = none from hl'] at h7; cases h7
    have hfp0 : fp l' = [] := (h.mNone l' hl').2
    have h1 := h.ren3 hl hm0 (fun b hb => by rw [hfp0] at hb; cases hb)
    have hne : l ≠ l' := by unfold ioL at *; omega
    have e1 : rl l l' l = l' := by simp [rl]
    have e2 : rl l l' l' = l := by unfold rl; rw [if_neg (Ne.symm hne), if_pos rfl]
    have hlk : ∀ x, lookB (rnM l l' m) x ≠ none ↔ lookB m (rl l l' x) ≠ none := fun x => by rw [lookB_rnM]; cases lookB m (rl l l' x) <;> simp
    have := hrec.2 B N _ _ S _ a w vs h1 (by rw [hlen]; exact hsz) (fun i hi => by
      have h' : i < xs.length := by rw [hlen] at hi; exact hi
      rw [rnL_get l l' xs i h' hi]; exact (hx i h').ren l l') (fun i hi l0 ver hl0 => by
      have h' : i < xs.length := by rw [hlen] at hi; exact hi
      rw [rnL_get l l' xs i h' hi, labs_rnA] at hl0
      obtain ⟨⟨k0, v0⟩, q1, q2⟩ := List.mem_map.1 hl0
      simp only [Prod.mk.injEq] at q2
      obtain ⟨rfl, rfl⟩ := q2
      obtain ⟨b0, q3, q4⟩ := hxl i h' k0 v0 q1
      exact ⟨rnB l l' b0, by rw [lookB_rnM, rl_rl, q3]; rfl, by rw [rnB_ver]; exact q4⟩)
    refine this.mono ?_
    rintro e w' ⟨v, rfl, φ', fp', S', m', x, g1, g2, g3, g4, g5⟩
    have hb5 : ∀ b, b ∈ fp' l' → B.w0.heap.size ≤ b := by
      intro b hb'
      rcases g5 l' ((hlk l').2 (by rw [e2]; exact hh)) hio b hb' with h5 | h5
      · exact Nat.le_trans h.size h5
      · have h5 : b ∈ fp (rl l l' l') := h5
        rw [e2] at h5
        rcases (h.fpB l b h5).2 with h6 | ⟨_, _, h6, _⟩
        · exact h6
        · exact absurd hl (Nat.not_lt.2 h6)
    have g6 := g1.ren3 hl hm0 hb5
    refine ⟨v, rfl, fun k => φ' (rl l l' k), fun k => fp' (rl l l' k), S', rnM l l' m', rnA l l' x, ?_, g2.ren l l', fun l0 ver hl0 => ?_, g4, fun l0 h0 h2 b hb' => ?_⟩
    · have ets : ∀ t, look (rnE l l' (rnE l l' ts)) t = look ts t := fun t => by rw [look_rnE, look_rnE, rnA_rnA]
      exact { g6 with tm := fun t => by rw [← ets]; exact g6.tm t, tl := fun t l ver hl => g6.tl t l ver (by rw [ets]; exact hl) }
    · rw [labs_rnA] at hl0
      obtain ⟨⟨k0, v0⟩, q1, q2⟩ := List.mem_map.1 hl0
      simp only [Prod.mk.injEq] at q2
      obtain ⟨rfl, rfl⟩ := q2
      obtain ⟨b0, q3, q4⟩ := g3 k0 v0 q1
      exact ⟨rnB l l' b0, by rw [lookB_rnM, rl_rl, q3]; rfl, by rw [rnB_ver]; exact q4⟩
    · have n1 : l0 ≠ l := fun e => by subst e; exact absurd hl (Nat.not_lt.2 h2)
      have n2 : l0 ≠ l' := fun e => by subst e; exact h0 hl'
      have e3 : rl l l' l0 = l0 := by unfold rl; rw [if_neg n1, if_neg n2]
      have hb' : b ∈ fp' (rl l l' l0) := hb'
      rw [e3] at hb'
      have := g5 l0 ((hlk l0).2 (by rw [e3]; exact h0)) h2 b hb'
      rcases this with h5 | h5
      · exact .inl h5
      · have h5 : b ∈ fp (rl l l' l0) := h5
        rw [e3] at h5; exact .inr h5

theorem FnH.call {P : Program} {f : FuncId} {m0 : Mem} {xs : List AV} {post : AV → Mem → Prop} {m : Mem} {k : AV → Mem → Prop} (hH : FnH P f m0 xs post) (hhi : ∀ l, l ∈ keys m0 → ioL ≤ l) (hm : ∀ l, l ∈ keys m0 → lookB m l = lookB m0 l)
    (hok : okM (keys m0) m0) (hxs : ∀ p, p ∈ labsL xs → p.1 ∈ keys m0) (hk : ∀ r m', post r m' → k r (m' ++ m)) : sCallF P f xs m k := by
  refine ⟨hH.1, fun B N φ fp S ts a w vs h hsz hx hxl => ?_⟩
  have hR0 : RS (baseH w (resφ (keys m0) φ) (resF (keys m0) fp) S m0) vs.size (resφ (keys m0) φ) (resF (keys m0) fp) S (argsE 0 xs) m0 { tmps := vs, defers := [] } w := by
    refine { tm := fun t => ?_, tl := fun t l ver hl => ?_, mNone := fun l hl => ?_, mSome := fun l b hb => ?_, bl := fun l v xs hb l' ver hl => ?_, nod := fun l => ?_, dis := fun l l' b h1 h2 => h.dis l l' b (mem_resF h1).2 (mem_resF h2).2,
             notS := fun l b hb => h.notS l b (mem_resF hb).2, fpB := fun l b hb => ⟨(h.fpB l b (mem_resF hb).2).1, .inr ⟨l, hb, hhi l (mem_resF hb).1, .inl rfl⟩⟩, sB := fun b hb => ⟨(h.sB b hb).1, .inr hb⟩, base := fun b _ _ => rfl, out := SameOut.refl _, szs := Szs.refl _,
             kn := fun _ _ _ hk => hk, fix := fun _ _ _ _ => LS.le_refl _ _, size := Nat.le_refl _, defers := rfl, tsz := rfl, kon := h.kon }
    · rw [look_argsE]
      by_cases ht : t < xs.length
      · have e : (if 0 ≤ t then (xs[t - 0]?).getD AV.undef else .undef) = xs[t] := by simp [ht]
        rw [e]
        have e2 : vs.toList.getD t Go.undef = vs.getD t Go.undef := by simp [List.getD_eq_getElem?_getD, Array.getD_eq_getD_getElem?]
        rw [← e2]
        refine (hx t ht).mono (fun _ _ => rfl) (fun _ h => h) (fun l b sh ver cs e _ hb => ⟨cs, e, hb, rfl⟩) fun l ver hl => ?_
        rw [resφ_in (hxs _ (mem_labsL ht hl))]
        exact LS.le_refl _ _
      · have e : (if 0 ≤ t then (xs[t - 0]?).getD AV.undef else .undef) = .undef := by simp [List.getElem?_eq_none (show xs.length ≤ t by omega)]
        rw [e]; exact .rd _ _ (.undef _)
    · rw [look_argsE] at hl
      by_cases ht : t < xs.length
      · have e : (if 0 ≤ t then (xs[t - 0]?).getD AV.undef else .undef) = xs[t] := by simp [ht]
        rw [e] at hl
        obtain ⟨b, h1, h2⟩ := hxl t ht l ver hl
        exact ⟨b, (hm l (hxs _ (mem_labsL ht hl))).symm.trans h1, h2⟩
      · have e : (if 0 ≤ t then (xs[t - 0]?).getD AV.undef else .undef) = .undef := by simp [List.getElem?_eq_none (show xs.length ≤ t by omega)]
        rw [e] at hl; cases hl
    · have hn : l ∉ keys m0 := fun hh => of_keys hh hl
      unfold resφ resF
      rw [if_neg hn, if_neg hn]; exact ⟨rfl, rfl⟩
    · have hl : l ∈ keys m0 := in_keys (by rw [hb]; exact fun e => by cases e)
      rw [resF_in hl]
      refine (h.mSome l b ((hm l hl).trans hb)).mono (fun _ _ => rfl) (fun _ h => h) (fun l b sh ver cs e _ hb => ⟨cs, e, hb, rfl⟩) (fun _ _ => rfl) (resφ_in hl) fun v xs e l' ver hl' => ?_
      subst e
      rw [resφ_in (hok.2 l v xs hb _ hl')]
      exact LS.le_refl _ _
    · have hl0 : l ∈ keys m0 := in_keys (by rw [hb]; exact fun e => by cases e)
      obtain ⟨b, h1, h2⟩ := h.bl l v xs ((hm l hl0).trans hb) l' ver hl
      exact ⟨b, (hm l' (hok.2 l v xs hb _ hl)).symm.trans h1, h2⟩
    · unfold resF; split
      · exact h.nod l
      · exact List.nodup_nil
  refine (hH.2 w _ _ S vs hsz hR0).mono ?_
  rintro e w' ⟨x, v, m', φ', fp', S', rfl, hpost, hrv, hlab, hokm, hR⟩
  have hsame : ∀ b : Nat, b < w.heap.size → (∀ l, l ∈ keys m0 → b ∉ fp l) → w'.heap[b]? = w.heap[b]? := fun b hb hn => hR.base b hb fun l hb' => hn l (mem_resF hb').1 (mem_resF hb').2
  have hSsame : ∀ b, S b → w'.heap[b]? = w.heap[b]? := fun b hb => hsame b (h.sB b hb).1 fun l _ hb' => h.notS _ b hb' hb
  have hz : Sized φ w w' := fun l b sh ver cs e _ hb => hR.szs b cs e hb
  have hST : ∀ b, S' b → S b ∨ (S' b ∧ w.heap.size ≤ b) := fun b hb => by
    rcases (hR.sB b hb).2 with hh | hh
    · exact .inr ⟨hb, hh⟩
    · exact .inl hh
  have kno : ∀ l ver, l ∈ keys m0 → known m l ver → known m0 l ver := fun l ver hl ⟨b, h1, h2⟩ => ⟨b, (hm l hl).symm.trans h1, h2⟩
  have inm' : ∀ l, l ∈ keys m0 → ∃ b, lookB m' l = some b := by
    intro l hl
    cases hb : lookB m0 l with
    | none => exact absurd hb (of_keys hl)
    | some b =>
      obtain ⟨b', h1, _⟩ := hR.kn l b.ver (hhi l hl) ⟨b, hb, Nat.le_refl _⟩
      exact ⟨b', h1⟩
  have lkL : ∀ l, l ∈ keys m0 → lookB (m' ++ m) l = lookB m' l := fun l hl => by
    obtain ⟨b, hb⟩ := inm' l hl
    rw [hb]; exact lookB_appL hb
  have lkR : ∀ l, l ∉ keys m0 → lookB (m' ++ m) l = lookB m l := fun l hl => lookB_appR (by
    cases hb : lookB m' l with
    | none => rfl
    | some b => exact absurd (hokm.1 l (by rw [hb]; exact fun e => by cases e)) hl)
  have hkn : ∀ l ver, known m l ver → known (m' ++ m) l ver := by
    intro l ver hk
    by_cases hl : l ∈ keys m0
    · obtain ⟨b, h1, h2⟩ := hR.kn l ver (hhi l hl) (kno l ver hl hk)
      exact ⟨b, (lkL l hl).trans h1, h2⟩
    · obtain ⟨b, h1, h2⟩ := hk
      exact ⟨b, (lkR l hl).trans h1, h2⟩
  let φ2 : Nat → LS := fun l => if l ∈ keys m0 then φ' l else φ l
  let fp2 : Nat → List Nat := fun l => if l ∈ keys m0 then fp' l else fp l
  have φi : ∀ l, l ∈ keys m0 → φ2 l = φ' l := fun l hl => if_pos hl
  have φo : ∀ l, l ∉ keys m0 → φ2 l = φ l := fun l hl => if_neg hl
  have fi : ∀ l, l ∈ keys m0 → fp2 l = fp' l := fun l hl => if_pos hl
  have fo : ∀ l, l ∉ keys m0 → fp2 l = fp l := fun l hl => if_neg hl
  have hle : ∀ l ver, known m l ver → LS.le (φ2 l) (φ l) ver := by
    intro l ver hk
    by_cases hl : l ∈ keys m0
    · have := hR.fix l ver (hhi l hl) (kno l ver hl hk)
      have this : LS.le (φ' l) (resφ (keys m0) φ l) ver := this
      rw [resφ_in hl] at this
      rw [φi l hl]; exact this
    · rw [φo l hl]; exact LS.le_refl _ _
  have fpnew : ∀ l, l ∈ keys m0 → ∀ b, b ∈ fp' l → b < w'.heap.size ∧ (w.heap.size ≤ b ∨ b ∈ fp l) := by
    intro l hl b hb
    have := hR.fpB l b hb
    refine ⟨this.1, this.2.imp id ?_⟩
    rintro ⟨l', hb2, _, hl3⟩
    have hl3 : l' = l := hl3.resolve_right fun e => of_keys hl e
    subst hl3
    have hb2 : b ∈ resF (keys m0) fp l' := hb2
    exact (mem_resF hb2).2
  have hfpd : ∀ l, lookB m' l = none → fp' l = [] := fun l hl => (hR.mNone l hl).2
  have mixed : ∀ l, l ∈ keys m0 → ∀ l' b, l' ∉ keys m0 → b ∈ fp' l → b ∈ fp l' → False := by
    intro l hl l' b hl' b1 b2
    rcases (fpnew l hl b b1).2 with hh | hh
    · have := (h.fpB l' b b2).1; omega
    · exact hl' (by rw [h.dis _ _ b b2 hh]; exact hl)
  refine ⟨v, rfl, φ2, fp2, fun b => S b ∨ (S' b ∧ w.heap.size ≤ b), m' ++ m, x, ?_, ?_, fun l ver hl => (by rw [hlab] at hl; cases hl), hk x m' hpost, fun l _ _ b hb => (by
    by_cases hl : l ∈ keys m0
    · rw [fi l hl] at hb; exact (fpnew l hl b hb).2
    · rw [fo l hl] at hb; exact .inr hb)⟩
  · refine { tm := fun t => (h.tm t).mono hSsame (fun b hb => .inl hb) hz fun l ver hl => hle l ver (h.tl t l ver hl), tl := fun t l ver hl => hkn l ver (h.tl t l ver hl), mNone := fun l hl => ?_, mSome := fun l b hb => ?_,
             bl := fun l v xs hb l' ver hl => ?_, nod := fun l => ?_, dis := fun l l' b h1 h2 => ?_, notS := fun l b hb => ?_, fpB := fun l b hb => ?_, sB := fun b hb => ?_, base := fun b hb hio => ?_,
             out := h.out.trans hR.out, szs := h.szs.trans hR.szs, kn := fun l ver hl hk => hkn l ver (h.kn l ver hl hk), fix := fun l ver hl hk => LS.le_trans (hle l ver (h.kn l ver hl hk)) (h.fix l ver hl hk), size := Nat.le_trans h.size hR.size, defers := h.defers, tsz := h.tsz,
             kon := h.kon.mono hSsame fun b hb => .inl hb }
    · by_cases hm1 : l ∈ keys m0
      · obtain ⟨b, hb⟩ := inm' l hm1
        rw [lkL l hm1, hb] at hl; cases hl
      · rw [lkR l hm1] at hl
        rw [φo l hm1, fo l hm1]; exact h.mNone l hl
    · by_cases hm1 : l ∈ keys m0
      · rw [lkL l hm1] at hb
        rw [fi l hm1]
        refine (hR.mSome l b hb).mono (fun _ _ => rfl) hST (fun l b sh ver cs e _ hb => ⟨cs, e, hb, rfl⟩) (fun _ _ => rfl) (φi l hm1) fun v xs e l' ver hl' => ?_
        subst e
        rw [φi l' (hokm.2 l v xs hb _ hl')]
        exact LS.le_refl _ _
      · rw [lkR l hm1] at hb
        rw [fo l hm1]
        refine (h.mSome l b hb).mono hSsame (fun b hb => .inl hb) hz (fun c hc => hsame c (h.fpB l c hc).1 fun l' hl' hc' => hm1 (by rw [h.dis _ _ c hc hc']; exact hl')) (φo l hm1) fun v xs e l' ver hl' => ?_
        subst e
        exact hle l' ver (h.bl l v xs hb l' ver hl')
    · by_cases hm1 : l ∈ keys m0
      · rw [lkL l hm1] at hb
        obtain ⟨b, h1, h2⟩ := hR.bl l v xs hb l' ver hl
        exact ⟨b, lookB_appL h1, h2⟩
      · rw [lkR l hm1] at hb
        exact hkn l' ver (h.bl l v xs hb l' ver hl)
    · by_cases hm1 : l ∈ keys m0
      · rw [fi l hm1]; exact hR.nod l
      · rw [fo l hm1]; exact h.nod l
    · by_cases m1 : l ∈ keys m0
      · rw [fi l m1] at h1
        by_cases m2 : l' ∈ keys m0
        · rw [fi l' m2] at h2
          exact hR.dis _ _ b h1 h2
        · rw [fo l' m2] at h2
          exact (mixed l m1 l' b m2 h1 h2).elim
      · rw [fo l m1] at h1
        by_cases m2 : l' ∈ keys m0
        · rw [fi l' m2] at h2
          exact (mixed l' m2 l b m1 h2 h1).elim
        · rw [fo l' m2] at h2
          exact h.dis l l' b h1 h2
    · by_cases hm1 : l ∈ keys m0
      · rw [fi l hm1] at hb
        rintro (hs | hs)
        · rcases (fpnew l hm1 b hb).2 with hh | hh
          · have := (h.sB b hs).1; omega
          · exact h.notS _ b hh hs
        · exact hR.notS _ b hb hs.1
      · rw [fo l hm1] at hb
        rintro (hs | hs)
        · exact h.notS l b hb hs
        · have := (h.fpB l b hb).1; omega
    · by_cases hm1 : l ∈ keys m0
      · rw [fi l hm1] at hb
        have := fpnew l hm1 b hb
        refine ⟨this.1, ?_⟩
        rcases this.2 with hh | hh
        · exact .inl (Nat.le_trans h.size hh)
        · exact (h.fpB _ b hh).2
      · rw [fo l hm1] at hb
        have := h.fpB l b hb
        exact ⟨Nat.lt_of_lt_of_le this.1 hR.size, this.2⟩
    · rcases hb with hs | hs
      · have := h.sB b hs
        exact ⟨Nat.lt_of_lt_of_le this.1 hR.size, this.2⟩
      · exact ⟨(hR.sB b hs.1).1, .inl (Nat.le_trans h.size hs.2)⟩
    · refine (hsame b (Nat.lt_of_lt_of_le hb h.size) fun l hl hb' => ?_).trans (h.base b hb hio)
      rcases (h.fpB _ b hb').2 with hh | hh
      · omega
      · exact hio _ hh.choose_spec.1
  · refine hrv.mono (fun _ _ => rfl) hST (fun l b sh ver cs e _ hb => ⟨cs, e, hb, rfl⟩) fun l ver hl => ?_
    rw [hlab] at hl; cases hl

/- ---- the same, told by computation -/
def inLs (L : List Nat) : List (Nat × Nat) → Prop
  | [] => True
  | p :: r => p.1 ∈ L ∧ inLs L r
theorem inLs_nil (L : List Nat) : inLs L [] = True := rfl
theorem inLs_cons (L : List Nat) (l v : Nat) (r : List (Nat × Nat)) : inLs L ((l, v) :: r) = (l ∈ L ∧ inLs L r) := rfl
theorem inLs_out {L : List Nat} : ∀ {r : List (Nat × Nat)}, inLs L r → ∀ p, p ∈ r → p.1 ∈ L
  | [], _, p, h => by cases h
  | _ :: _, h, p, hp => by
    rcases List.mem_cons.1 hp with e | hp
    · subst e; exact h.1
    · exact inLs_out h.2 p hp
def okK (L : List Nat) (b : Blk) : Prop := match b with
  | .box _ xs => inLs L (labsL xs)
  | _ => True
theorem okK_box (L : List Nat) (v : Nat) (xs : List AV) : okK L (.box v xs) = inLs L (labsL xs) := rfl
theorem okK_row (L : List Nat) (v : Nat) (sh : Sh) (d : Bool) (xs : List AV) : okK L (.row v sh d xs) = True := rfl
theorem okK_gone (L : List Nat) (v : Nat) : okK L (.gone v) = True := rfl
def okB (L : List Nat) : Mem → Prop
  | [] => True
  | (l, b) :: r => (l ∈ L ∧ okK L b) ∧ okB L r
theorem okB_nil (L : List Nat) : okB L [] = True := rfl
theorem okB_cons (L : List Nat) (l : Nat) (b : Blk) (r : Mem) : okB L ((l, b) :: r) = ((l ∈ L ∧ okK L b) ∧ okB L r) := rfl
theorem okM_of {L : List Nat} : ∀ {m : Mem}, okB L m → okM L m
  | [], _ => ⟨fun l h => absurd rfl h, fun l v xs h => by cases h⟩
  | (l, b) :: r, ⟨⟨h1, h2⟩, h3⟩ => by
    obtain ⟨g1, g2⟩ := okM_of h3
    refine ⟨fun l' h => ?_, fun l' v xs h => ?_⟩
    · rw [lookB_cons] at h
      split at h
      · rename_i e; subst e; exact h1
      · exact g1 l' h
    · rw [lookB_cons] at h
      split at h
      · injection h with h
        subst h
        exact inLs_out h2
      · exact g2 l' v xs h
def sameB (m m' : Mem) : List Nat → Prop
  | [] => True
  | l :: r => lookB m l = lookB m' l ∧ sameB m m' r
theorem sameB_nil (m m' : Mem) : sameB m m' [] = True := rfl
theorem sameB_cons (m m' : Mem) (l : Nat) (r : List Nat) : sameB m m' (l :: r) = (lookB m l = lookB m' l ∧ sameB m m' r) := rfl
theorem sameB_out {m m' : Mem} : ∀ {L : List Nat}, sameB m m' L → ∀ l, l ∈ L → lookB m l = lookB m' l
  | [], _, l, h => by cases h
  | _ :: _, ⟨h1, h2⟩, l, h => by
    rcases List.mem_cons.1 h with rfl | h
    · exact h1
    · exact sameB_out h2 l h
theorem keepsM_of {L : List Nat} {m m' : Mem} (h1 : sameB m' m L) (h2 : okB L m') : keepsM L m m' := ⟨sameB_out h1, okM_of h2⟩
def hiLs : List Nat → Prop
  | [] => True
  | l :: r => 1000000000 ≤ l ∧ hiLs r
theorem hiLs_nil : hiLs [] = True := rfl
theorem hiLs_cons (l : Nat) (r : List Nat) : hiLs (l :: r) = (1000000000 ≤ l ∧ hiLs r) := rfl
theorem hiLs_out : ∀ {L : List Nat}, hiLs L → ∀ l, l ∈ L → ioL ≤ l
  | [], _, l, h => by cases h
  | _ :: _, ⟨h1, h2⟩, l, h => by
    rcases List.mem_cons.1 h with rfl | h
    · exact h1
    · exact hiLs_out h2 l h

/-- A call by such a contract, all of whose labels are upper ones already. -/
theorem sCallT_H {P : Program} {f : FuncId} {m0 : Mem} {xs xt : List AV} {d : Nat} {post : AV → Mem → Prop} {m : Mem} {k : AV → Mem → Prop} {q : Pack k} (hH : FnH P f m0 xs post)
    (hc : (hiLs (keys m0) ∧ okB (keys m0) m0) ∧ sameB m m0 (keys m0) ∧ inLs (keys m0) (labsL xs)) (hk : ∀ r m', post r m' → k r (m' ++ m)) : sCallT P f d xs xt m k q :=
  .inl (FnH.call hH (hiLs_out hc.1.1) (sameB_out hc.2.1) (okM_of hc.1.2) (inLs_out hc.2.2) hk).io
/-- A call by such a contract; our lower labels take names J higher meanwhile. -/
theorem sCallT_HR (J : Nat) {P : Program} {f : FuncId} {m0 : Mem} {xs xs0 xt : List AV} {d : Nat} {post : AV → Mem → Prop} {m : Mem} {k : AV → Mem → Prop} {q : Pack k} (hH : FnH P f m0 xs0 post)
    (hr : renOk (lowP J [] m) m ∧ rnsL (lowP J [] m) xs = xs0)
    (hc : (hiLs (keys m0) ∧ okB (keys m0) m0) ∧ sameB (rnsM (lowP J [] m) m) m0 (keys m0) ∧ inLs (keys m0) (labsL xs0))
    (hk : ∀ r m', post r m' → k (rnsAb (lowP J [] m) r) (rnsMb (lowP J [] m) (m' ++ rnsM (lowP J [] m) m))) : sCallT P f d xs xt m k q :=
  .inl (sCallF.ren (lowP J [] m) hr.1 (by rw [hr.2]; exact FnH.call hH (hiLs_out hc.1.1) (sameB_out hc.2.1) (okM_of hc.1.2) (inLs_out hc.2.2) hk)).io

attribute [go_sem] keys_nil keys_cons inLs_nil inLs_cons okK_box okK_row okK_gone okB_nil okB_cons sameB_nil sameB_cons hiLs_nil hiLs_cons finH_normal finH_ret
end Go.Vc

/-
  Rows that are given away: they stay readable for good. Contracts of functions whose result shares with what they were given.
-/
set_option linter.unusedVariables false
set_option linter.unusedSimpArgs false
set_option linter.unnecessarySimpa false
namespace Go.Vc

section
variable {P : Program} {B : Base} {N : Nat} {φ : Nat → LS} {fp : Nat → List Nat} {S : Nat → Prop} {ts : Env} {m : Mem} {a : Act} {w : World}

def dropL (l : Nat) (m : Mem) : Mem := m.filter fun p => p.1 != l
theorem lookB_dropL (l k : Nat) : ∀ m : Mem, lookB (dropL l m) k = if k = l then none else lookB m k
  | [] => by simp [dropL, lookB_nil]
  | (j, b) :: r => by
    have ih := lookB_dropL l k r
    unfold dropL at ih ⊢
    rw [List.filter_cons]
    by_cases e : j = l
    · subst e
      simp only [bne_self_eq_false, Bool.false_eq_true, if_false]
      rw [ih, lookB_cons]
      by_cases e2 : k = j
      · simp [e2]
      · rw [if_neg e2, if_neg e2, if_neg (Ne.symm e2)]
    · have : (j != l) = true := by simpa using e
      simp only [this, if_true]
      rw [lookB_cons, lookB_cons, ih]
      by_cases e2 : j = k
      · subst e2; rw [if_pos rfl, if_pos rfl, if_neg e]
      · rw [if_neg e2, if_neg e2]

end

/-- arguments, of which some are slices of the row that is given away -/
def frzOk (l v : Nat) (sh : Sh) (ys : List AV) : List AV → List AV → Prop
  | [], [] => True
  | x :: xs, t :: r => ((∃ i n, x = .ref l v i n ∧ i + n ≤ ys.length ∧ t = .arr sh ((ys.drop i).take n)) ∨ (labs x = [] ∧ isClo x = false ∧ t = x)) ∧ frzOk l v sh ys xs r
  | _, _ => False
theorem frzOk_ref {l v : Nat} {sh : Sh} {ys xs r : List AV} (i n : Nat) (h : i + n ≤ ys.length) (hr : frzOk l v sh ys xs r) : frzOk l v sh ys (.ref l v i n :: xs) (.arr sh ((ys.drop i).take n) :: r) := ⟨.inl ⟨i, n, rfl, h, rfl⟩, hr⟩
theorem frzOk_no {l v : Nat} {sh : Sh} {ys xs r : List AV} {x : AV} (h : labs x = []) (h2 : isClo x = false) (hr : frzOk l v sh ys xs r) : frzOk l v sh ys (x :: xs) (x :: r) := ⟨.inr ⟨h, h2, rfl⟩, hr⟩
theorem frzOk_nil {l v : Nat} {sh : Sh} {ys : List AV} : frzOk l v sh ys [] [] := trivial

/-- A call that gives a row away: the result may share with it. -/
theorem sCallT_frz {P : Program} {f : FuncId} {d : Nat} {xs trs xt : List AV} {m : Mem} {k : AV → Mem → Prop} {q : Pack k} {post : AV → Prop} (l v : Nat) (sh : Sh) (dp : Bool) (ys : List AV) (hfn : Fn P f trs false post) (hl : l < ioL)
    (hm : lookB m l = some (.row v sh dp ys)) (hx : frzOk l v sh ys xs trs) (hk : ∀ r, post r → k r ((l, .gone v) :: m)) : sCallT P f d xs xt m k q := by
  refine .inl fun B N φ fp S ts a w vs h hsz hrv hxl => ⟨hfn.1, ?_⟩
  have hf := h.frz hl hm (v := v) rfl
  have hlen : ∀ (xs trs : List AV), frzOk l v sh ys xs trs → trs.length = xs.length ∧ ∀ i (h1 : i < xs.length) (h2 : i < trs.length),
      (∃ j n, xs[i] = .ref l v j n ∧ j + n ≤ ys.length ∧ trs[i] = .arr sh ((ys.drop j).take n)) ∨ (labs xs[i] = [] ∧ isClo xs[i] = false ∧ trs[i] = xs[i]) := by
    intro xs
    induction xs with
    | nil => intro trs hx; cases trs with
      | nil => exact ⟨rfl, fun i h1 => absurd h1 (Nat.not_lt_zero _)⟩
      | cons => exact hx.elim
    | cons x xs ih => intro trs hx; cases trs with
      | nil => exact hx.elim
      | cons t r =>
        obtain ⟨g1, g2⟩ := ih r hx.2
        refine ⟨by simp [g1], fun i h1 h2 => ?_⟩
        cases i with
        | zero => exact hx.1
        | succ i => exact g2 i (by simpa using h1) (by simpa using h2)
  obtain ⟨hlen, helt⟩ := hlen xs trs hx
  refine (hfn.2 w (fun b => S b ∨ b ∈ fp l) vs (fun b hb => (hf.sB b hb).1) hf.kon (hsz.trans hlen.symm) fun i hi => ?_).mono ?_
  · have hi2 : i < xs.length := by omega
    rcases helt i hi2 hi with ⟨j, n, e1, e2, e3⟩ | ⟨e1, e2, e3⟩
    · rw [e3]
      have := hrv i hi2
      rw [e1] at this
      exact frz_rd h hl hm e2 this
    · rw [e3]
      exact (rd_of_rv (hrv i hi2) e1).mono (fun _ _ => rfl) fun _ h => .inl h
  · rintro e w' ⟨r, v', rfl, hr, hg, hres⟩
    simp only [FnRes, Bool.false_eq_true, if_false] at hres
    have hRS := (hf.grown hg).hold (fun b => w.heap.size ≤ b ∧ b < w'.heap.size) (fun b hb => ⟨hb.2, Nat.le_trans hf.size hb.1, fun k hk => by have := (hf.fpB k b hk).1; omega⟩)
    exact ⟨v', rfl, _, _, _, ts, _, r, hRS, .rd _ _ hres, fun k ver hk => (by rw [labs_rd hres] at hk; cases hk), rfl, hk r hr⟩

/-- Ahead of any piece of code a row of ours may be given away: temporary t, a slice of it, is a readable list from then on. -/
theorem Later.frz {P : Program} {N : Nat} {code : Code} {ts : Env} {m : Mem} {Q : Post} {q : Pack (code, Q)} (t l v i n : Nat) (sh : Sh) (d : Bool) (ys : List AV) (hl : l < ioL) (hm : lookB m l = some (.row v sh d ys)) (ht : look ts t = .ref l v i n) (hn : i + n ≤ ys.length)
    (h : Later P N code ((t, .arr sh ((ys.drop i).take n)) :: ts) ((l, .gone v) :: m) Q q) : Later P N code ts m Q q := by
  refine ⟨fun B φ fp S a w hRS => h.ok B _ _ _ a w (?_ : RS B N (offφ l φ) (offF l fp) (fun b => S b ∨ b ∈ fp l) _ _ a w)⟩
  have hf := hRS.frz hl hm (v := v) rfl
  have hu := hRS.tm t
  rw [ht] at hu
  have hrd := frz_rd hRS hl hm hn hu
  refine { hf with tm := fun t' => ?_, tl := fun t' k ver hk => ?_ }
  · rw [look_cons]
    split
    · rename_i e; subst e; exact .rd _ _ hrd
    · exact hf.tm t'
  · rw [look_cons] at hk
    split at hk
    · cases hk
    · exact hf.tl t' k ver hk

/-- What must hold where the body of a function ends whose result is readable. -/
def finS (P : Program) (rs : List ResultVar) (post : AV → Prop) : Post
  | .normal => fun ts m => sResults P (fun xs => sGivAs (fun ys _ => labsL ys = [] ∧ post (mkRes ys)) [] m xs) rs ts m []
  | .ret => fun ts m => sResults P (fun xs => sGivAs (fun ys _ => labsL ys = [] ∧ post (mkRes ys)) [] m xs) rs ts m []
  | _ => fun _ _ => False
theorem finS_normal (P : Program) (rs : List ResultVar) (post : AV → Prop) (ts : Env) (m : Mem) : finS P rs post .normal ts m = sResults P (fun xs => sGivAs (fun ys _ => labsL ys = [] ∧ post (mkRes ys)) [] m xs) rs ts m [] := rfl
theorem finS_ret (P : Program) (rs : List ResultVar) (post : AV → Prop) (ts : Env) (m : Mem) : finS P rs post .ret ts m = sResults P (fun xs => sGivAs (fun ys _ => labsL ys = [] ∧ post (mkRes ys)) [] m xs) rs ts m [] := rfl

theorem Fn.of_vcS' {P : Program} {f : FuncId} {fn : Func} {c : Code} {args : List AV} {post : AV → Prop} (hf : P.funcs[f]? = some fn) (hn : (fn.name == "runtime.NumGoroutine") = false) (hb : fn.body = some c)
    (hok : codeOk fn.ntmps c = true) (ha : args.length ≤ fn.ntmps) (hv : vc P fn.ntmps c (argsE 0 args) [] (finS P fn.results.toList post)) : Fn P f args false post := by
  refine ⟨⟨fn, c, hf, hn, hb⟩, fun w S vs hS hkon hsz hrd => ?_⟩
  refine calls_of_wp hf hb ?_
  have hRS : RS ⟨w, fun _ _ => False, S, fun _ => .dead, []⟩ fn.ntmps (fun _ => .dead) (fun _ => []) S (argsE 0 args) [] { tmps := vs ++ Array.replicate (fn.ntmps - vs.size) undef, defers := [] } w := by
    have hlook : ∀ t, (look (argsE 0 args) t = .undef ∨ ∃ h : t < args.length, look (argsE 0 args) t = args[t]) := by
      intro t
      rw [look_argsE]
      by_cases h : t < args.length
      · exact .inr ⟨h, by simp [h]⟩
      · exact .inl (by simp [h])
    refine { tm := fun t => ?_, tl := fun t l ver hl => ?_, mNone := fun _ _ => ⟨rfl, rfl⟩, mSome := fun l k hk => (by cases hk), bl := fun l v xs hk => (by cases hk), nod := fun _ => List.nodup_nil,
             dis := fun _ _ _ h => (by cases h), notS := fun _ _ h => (by cases h), fpB := fun _ _ h => (by cases h), sB := fun b hb => ⟨hS b hb, .inr hb⟩, base := fun b hb _ => rfl, out := SameOut.refl _, szs := Szs.refl _, kn := fun _ _ _ hk => hk, fix := fun _ _ _ _ => LS.le_refl _ _,
             size := Nat.le_refl _, defers := rfl, tsz := by simp; omega, kon := hkon }
    · rcases hlook t with e | ⟨h, e⟩
      · rw [e]; exact .rd _ _ (.undef _)
      · rw [e]
        have h1 := hrd t h
        have : vs.toList.getD t Go.undef = (vs ++ Array.replicate (fn.ntmps - vs.size) undef).getD t Go.undef := by
          have h2 : t < vs.size := by omega
          simp only [Array.getD_eq_getD_getElem?, List.getD_eq_getElem?_getD, Array.getElem?_toList]
          rw [Array.getElem?_append_left h2]
        rw [← this]
        exact .rd _ _ h1
    · rcases hlook t with e | ⟨h, e⟩
      · rw [e] at hl; cases hl
      · rw [e, labs_rd (hrd t h)] at hl; cases hl
  have hend : ∀ a' w', Done ⟨w, fun _ _ => False, S, fun _ => .dead, []⟩ fn.ntmps (fun ts m => sResults P (fun xs => sGivAs (fun ys _ => labsL ys = [] ∧ post (mkRes ys)) [] m xs) fn.results.toList ts m []) a' w' →
      a'.defers = [] ∧ ∃ v, (results fn a'.tmps).run P w' = .ok v w' ∧ ∃ r v', Ending.returned v = .returned v' ∧ post r ∧ Grown w w' ∧ FnRes w w' S false r v' := by
    rintro a' w' ⟨φ0, fp0, S0, ts', m0, h0, hk⟩
    refine ⟨h0.defers, ?_⟩
    obtain ⟨ys0, us, h1, h2, h3, h4⟩ := results_out' h0 fn.results.toList [] [] ⟨rfl, fun i hi => absurd hi (Nat.not_lt_zero _)⟩ (fun i hi => absurd hi (Nat.not_lt_zero _)) hk
    obtain ⟨φ', fp', S', m', ys, hgv, h3, hlab, hpost⟩ := givAs_out ys0 us [] [] h0 (by simpa using h3) ⟨rfl, fun i hi => absurd hi (Nat.not_lt_zero _)⟩ h1
    have h' := hgv.rs
    obtain ⟨h3a, h3b⟩ := h3
    simp only [List.nil_append] at h3a h3b
    refine ⟨if h : us.toArray.size = 1 then us.toArray[0] else .tuple us.toArray, ?_, mkRes ys, _, rfl, hpost, ⟨h'.size, fun b hb => h'.base b hb (fun _ h => h), h'.out⟩, ?_⟩
    · have hm : results fn a'.tmps = (do let vs ← fn.results.mapM (resOne a'.tmps); pure (if h : vs.size = 1 then vs[0] else .tuple vs)) := by
        unfold results
        congr 1
      rw [hm, Sem.run_bind, Array.mapM_eq_mapM_toList]
      have : (List.toArray <$> fn.results.toList.mapM (resOne a'.tmps) : Sem (Array Value)).run P w' = .ok us.toArray w' := by
        rw [map_eq_pure_bind, Sem.run_bind, h2]; rfl
      rw [this]; rfl
    · show Rd w' _ _ _
      refine (rd_of_rv (mkRes_rv h3a h3b) (labs_mkRes hlab)).mono (fun _ _ => rfl) fun b hb => ?_
      rcases (h'.sB b hb).2 with hh | hh
      · exact .inr ⟨hh, (h'.sB b hb).1⟩
      · exact .inl hh
  refine wp_mono (vc_sound c _ _ _ hok hv _ _ _ _ _ _ hRS) ?_
  intro e a' w' hq
  cases e with
  | normal => exact hend a' w' hq
  | ret => exact hend a' w' hq
  | _ => obtain ⟨_, _, _, _, _, _, hh⟩ := hq; exact hh.elim
theorem Fn.of_vcS {P : Program} {f : FuncId} {fn : Func} {c : Code} {args : List AV} {post : AV → Prop} (N : Nat) (rs : List ResultVar) (hf : P.funcs[f]? = some fn) (hN : fn.ntmps = N) (hr : fn.results.toList = rs) (hn : (fn.name == "runtime.NumGoroutine") = false)
    (hb : fn.body = some c) (hok : codeOk N c = true) (ha : args.length ≤ N) (hv : vc P N c (argsE 0 args) [] (finS P rs post)) : Fn P f args false post := by
  subst hN; subst hr; exact Fn.of_vcS' hf hn hb hok ha hv
attribute [go_sem] finS_normal finS_ret labs_val labs_e0 labs_arr labsL_nil labsL_cons
end Go.Vc

/-
  Contracts: the first key that begins with some cuts, the next key.
-/
set_option linter.unusedVariables false
set_option linter.unusedSimpArgs false
set_option linter.unnecessarySimpa false
namespace Go.Vc
open Go.Proofs
set_option maxRecDepth 100000
set_option maxHeartbeats 2000000
/- ---- plain -/
def firstD (f : Nat → Option (List Int)) : Nat → Option (List Int)
  | 0 => none
  | d + 1 => match firstD f d with
    | some k => some k
    | none => f d
def firstK (m : MkM) : Nat → List Int → Option (List Int)
  | 0, c => if okTo m c = true ∧ m.least ≤ (kindsTo c c.length : Int) then some c else none
  | n + 1, c => if okTo m c = true then firstD (fun (d : Nat) => firstK m n (c ++ [(d : Int)])) m.depths.toNat else none
theorem firstD_out {f : Nat → Option (List Int)} {k : List Int} : ∀ {D : Nat}, firstD f D = some k → ∃ d, d < D ∧ f d = some k
  | D + 1, h => by
    simp only [firstD] at h
    cases hh : firstD f D with
    | some k' =>
      rw [hh] at h
      obtain ⟨d, h1, h2⟩ := firstD_out hh
      exact ⟨d, by omega, h2.trans h⟩
    | none => rw [hh] at h; exact ⟨D, by omega, h⟩
theorem firstD_none {f : Nat → Option (List Int)} {D : Nat} (h : firstD f D = none) : firstD f (D + 1) = f D := by simp [firstD, h]
theorem firstD_some {f : Nat → Option (List Int)} {D : Nat} {k : List Int} (h : firstD f D = some k) : ∀ E, D ≤ E → firstD f E = some k
  | 0, hE => by rw [show D = 0 by omega] at h; cases h
  | E + 1, hE => by
    by_cases e : D = E + 1
    · rw [← e]; exact h
    · simp only [firstD]; rw [firstD_some h E (by omega)]
def optR (o : Option (List Int)) : AV := match o with
  | some k => .tup [eIs k, eB true]
  | none => .tup [.val (.slice none 0 0), eB false]
/-- what l02First tells: the key; or cuts, of which it says that they are none -/
def firstR (m : MkM) (n : Nat) (c : List Int) (r : AV) : Prop := match firstK m n c with
  | some k => r = .tup [eIs k, eB true]
  | none => ∃ x, r = .tup [x, eB false] ∧ (x = .val (.slice none 0 0) ∨ x = eIs c)
theorem c_l02First (m : MkM) (hm : isMk m = true) : ∀ (n : Nat) (c : List Int), (c.length : Int) + n = m.chambers → (∀ x ∈ c, 0 ≤ x ∧ x ≤ 7) → Fn Try.prog 169 [eMk m, eIs c] false (firstR m n c) := by
  intro n
  have ⟨⟨hch1, hch2⟩, hd1, hd2⟩ := isMk_num hm
  induction n with
  | zero =>
    intro c hl hc
    refine Fn.of_vcS 42 [.tmp 4, .tmp 5] Try.func169 rfl rfl rfl rfl rfl (of_decide_eq_true rfl) ?_
    have hbe := c_l02Begins m c hm (by omega) hc
    have hk : ((c.length : Int) == m.chambers) = true := beq_iff_eq.2 (by omega)
    have hki := c_l02Kinds c (by omega)
    unfold firstR
    rcases hb : okTo m c with _ | _
    · have hcnt : firstK m 0 c = none := by rw [firstK, if_neg (by rw [hb]; exact fun h => by cases h.1)]
      rw [hb] at hbe
      rw [hcnt]
      clear hcnt hb
      simp -dsimp -implicitDefEqProofs only [go_sem, ↓reduceIte, Nat.reduceEqDiff, Nat.reduceLT, Nat.reduceAdd, Nat.reduceMul, Nat.reduceLeDiff, Nat.le_refl, Int.natCast_zero, Int.toNat_natCast, Int.reduceToNat]
      (refine sCallT_one (hbe) ?_; try simp -dsimp -implicitDefEqProofs only [go_sem, ↓reduceIte, Nat.reduceEqDiff, Nat.reduceLT, Nat.reduceAdd, Nat.reduceMul, Nat.reduceLeDiff, Nat.le_refl, Int.natCast_zero, Int.toNat_natCast, Int.reduceToNat, *])
      exact ⟨_, rfl, .inl rfl⟩
    · rw [hb] at hbe
      rcases hq : decide ((kindsTo c c.length : Int) ≥ m.least) with _ | _
      · have hcnt : firstK m 0 c = none := by rw [firstK, if_neg (fun h => by have := of_decide_eq_false hq; omega)]
        rw [hcnt]
        clear hcnt hb
        simp -dsimp -implicitDefEqProofs only [go_sem, ↓reduceIte, Nat.reduceEqDiff, Nat.reduceLT, Nat.reduceAdd, Nat.reduceMul, Nat.reduceLeDiff, Nat.le_refl, Int.natCast_zero, Int.toNat_natCast, Int.reduceToNat]
        (refine sCallT_one (hbe) ?_; try simp -dsimp -implicitDefEqProofs only [go_sem, ↓reduceIte, Nat.reduceEqDiff, Nat.reduceLT, Nat.reduceAdd, Nat.reduceMul, Nat.reduceLeDiff, Nat.le_refl, Int.natCast_zero, Int.toNat_natCast, Int.reduceToNat, *])
        refine Later.draw mixed rfl ?_
        simp -dsimp -implicitDefEqProofs only [go_sem, ↓reduceIte, Nat.reduceEqDiff, Nat.reduceLT, Nat.reduceAdd, Nat.reduceMul, Nat.reduceLeDiff, Nat.le_refl, Int.natCast_zero, Int.toNat_natCast, Int.reduceToNat]
        (refine sCallX_one (hki) ?_; try simp -dsimp -implicitDefEqProofs only [go_sem, ↓reduceIte, Nat.reduceEqDiff, Nat.reduceLT, Nat.reduceAdd, Nat.reduceMul, Nat.reduceLeDiff, Nat.le_refl, Int.natCast_zero, Int.toNat_natCast, Int.reduceToNat, *])
        exact ⟨by exact rfl, _, rfl, .inr rfl⟩
      · have hcnt : firstK m 0 c = some c := by rw [firstK, if_pos ⟨hb, by have := of_decide_eq_true hq; omega⟩]
        rw [hcnt]
        clear hcnt hb
        simp -dsimp -implicitDefEqProofs only [go_sem, ↓reduceIte, Nat.reduceEqDiff, Nat.reduceLT, Nat.reduceAdd, Nat.reduceMul, Nat.reduceLeDiff, Nat.le_refl, Int.natCast_zero, Int.toNat_natCast, Int.reduceToNat]
        (refine sCallT_one (hbe) ?_; try simp -dsimp -implicitDefEqProofs only [go_sem, ↓reduceIte, Nat.reduceEqDiff, Nat.reduceLT, Nat.reduceAdd, Nat.reduceMul, Nat.reduceLeDiff, Nat.le_refl, Int.natCast_zero, Int.toNat_natCast, Int.reduceToNat, *])
        refine Later.draw mixed rfl ?_
        simp -dsimp -implicitDefEqProofs only [go_sem, ↓reduceIte, Nat.reduceEqDiff, Nat.reduceLT, Nat.reduceAdd, Nat.reduceMul, Nat.reduceLeDiff, Nat.le_refl, Int.natCast_zero, Int.toNat_natCast, Int.reduceToNat]
        (refine sCallX_one (hki) ?_; try simp -dsimp -implicitDefEqProofs only [go_sem, ↓reduceIte, Nat.reduceEqDiff, Nat.reduceLT, Nat.reduceAdd, Nat.reduceMul, Nat.reduceLeDiff, Nat.le_refl, Int.natCast_zero, Int.toNat_natCast, Int.reduceToNat, *])
        exact rfl
  | succ n ih =>
    intro c hl hc
    refine Fn.of_vcS 42 [.tmp 4, .tmp 5] Try.func169 rfl rfl rfl rfl rfl (of_decide_eq_true rfl) ?_
    have hbe := c_l02Begins m c hm (by omega) hc
    have hk : ((c.length : Int) == m.chambers) = false := beq_eq_false_iff_ne.2 (by omega)
    unfold firstR
    rcases hb : okTo m c with _ | _
    · have hcnt : firstK m (n + 1) c = none := by rw [firstK, if_neg (by rw [hb]; exact fun h => by cases h)]
      rw [hb] at hbe
      rw [hcnt]
      clear hcnt hb
      simp -dsimp -implicitDefEqProofs only [go_sem, ↓reduceIte, Nat.reduceEqDiff, Nat.reduceLT, Nat.reduceAdd, Nat.reduceMul, Nat.reduceLeDiff, Nat.le_refl, Int.natCast_zero, Int.toNat_natCast, Int.reduceToNat]
      (refine sCallT_one (hbe) ?_; try simp -dsimp -implicitDefEqProofs only [go_sem, ↓reduceIte, Nat.reduceEqDiff, Nat.reduceLT, Nat.reduceAdd, Nat.reduceMul, Nat.reduceLeDiff, Nat.le_refl, Int.natCast_zero, Int.toNat_natCast, Int.reduceToNat, *])
      exact ⟨_, rfl, .inl rfl⟩
    · have hcnt : firstK m (n + 1) c = firstD (fun (d : Nat) => firstK m n (c ++ [(d : Int)])) m.depths.toNat := by rw [firstK, if_pos hb]
      rw [hb] at hbe
      rw [hcnt]
      clear hcnt hb
      have hown := c_l01Own c (by omega)
      simp -dsimp -implicitDefEqProofs only [go_sem, ↓reduceIte, Nat.reduceEqDiff, Nat.reduceLT, Nat.reduceAdd, Nat.reduceMul, Nat.reduceLeDiff, Nat.le_refl, Int.natCast_zero, Int.toNat_natCast, Int.reduceToNat]
      (refine sCallT_one (hbe) ?_; try simp -dsimp -implicitDefEqProofs only [go_sem, ↓reduceIte, Nat.reduceEqDiff, Nat.reduceLT, Nat.reduceAdd, Nat.reduceMul, Nat.reduceLeDiff, Nat.le_refl, Int.natCast_zero, Int.toNat_natCast, Int.reduceToNat, *])
      refine Later.up [1, 2] [33, 35, 36, 37] [] m.depths.toNat (fun i => firstD (fun (d : Nat) => firstK m n (c ++ [(d : Int)])) i = none) (fun i => [(6, eI i)]) (fun _ => []) rfl ?_ rfl (fun i hi hI => ?_) (fun hI => ?_)
      · simp -dsimp -implicitDefEqProofs only [go_sem, ↓reduceIte, Nat.reduceEqDiff, Nat.reduceLT, Nat.reduceAdd, Nat.reduceMul, Nat.reduceLeDiff, Nat.le_refl, Int.natCast_zero, Int.toNat_natCast, Int.reduceToNat]
      · have hih := ih (c ++ [(i : Int)]) (by simp; omega) (fun x hx => by
          rcases List.mem_append.1 hx with h | h
          · exact hc x h
          · simp at h; omega)
        have hlt : decide ((i : Int) < m.depths) = true := decide_eq_true (by omega)
        have hmap : List.map eI c ++ [eI (i : Int)] = List.map eI (c ++ [(i : Int)]) := by simp
        have htk : List.take c.length (List.map eI c) = List.map eI c := List.take_of_length_le (by simp)
        have htl : List.take (c.length + 1) (List.map eI (c ++ [(i : Int)])) = List.map eI (c ++ [(i : Int)]) := List.take_of_length_le (by simp)
        have hnx := firstD_none hI
        have hend : ∀ k, firstK m n (c ++ [(i : Int)]) = some k → firstD (fun (d : Nat) => firstK m n (c ++ [(d : Int)])) m.depths.toNat = some k := fun k hk => firstD_some (hnx.trans hk) _ (by omega)
        rw [hnx]
        clear ih hI hnx
        unfold firstR at hih
        generalize firstK m n (c ++ [(i : Int)]) = F at *
        simp -dsimp -implicitDefEqProofs only [pick_nil, pick_cons, look_nil, look_cons, dropB_nil, dropB_cons, inD_nil, inD_cons, inE_nil, inE_cons, or_t_l, or_f_l, Nat.reduceBEq, Nat.reduceDiv, Nat.reduceAdd, beq_self_eq_true, Bool.false_eq_true, Bool.or_false, ↓reduceIte, Nat.reduceEqDiff, List.cons_append, List.nil_append]
        simp -dsimp -implicitDefEqProofs only [go_sem, ↓reduceIte, Nat.reduceEqDiff, Nat.reduceLT, Nat.reduceAdd, Nat.reduceMul, Nat.reduceLeDiff, Nat.le_refl, Int.natCast_zero, Int.toNat_natCast, Int.reduceToNat, hlt]
        refine Later.duo 6 mixed rfl ?_
        simp -dsimp -implicitDefEqProofs only [List.take_succ_cons, List.take_zero, List.drop_succ_cons, List.drop_zero]
        simp -dsimp -implicitDefEqProofs only [go_sem, ↓reduceIte, Nat.reduceEqDiff, Nat.reduceLT, Nat.reduceAdd, Nat.reduceMul, Nat.reduceLeDiff, Nat.le_refl, Int.natCast_zero, Int.toNat_natCast, Int.reduceToNat]
        (refine sCallX_one (hown) ?_; try simp -dsimp -implicitDefEqProofs only [go_sem, ↓reduceIte, Nat.reduceEqDiff, Nat.reduceLT, Nat.reduceAdd, Nat.reduceMul, Nat.reduceLeDiff, Nat.le_refl, Int.natCast_zero, Int.toNat_natCast, Int.reduceToNat, *])
        refine ⟨by omega, ?_⟩
        refine ⟨by exact rfl, ?_⟩
        refine sCallT_frz 34000 1 ⟨1, false⟩ true (List.map eI (c ++ [(i : Int)])) hih (by decide) ?_ ?_ fun r hr => ?_
        · simp -dsimp -implicitDefEqProofs only [go_sem, ↓reduceIte, Nat.reduceEqDiff, Nat.reduceLT, Nat.reduceAdd, Nat.reduceMul, Nat.reduceLeDiff, Nat.le_refl, Int.natCast_zero, Int.toNat_natCast, Int.reduceToNat]
        · refine frzOk_no ?_ rfl ?_
          · simp -dsimp -implicitDefEqProofs only [go_sem, ↓reduceIte, Nat.reduceEqDiff, Nat.reduceLT, Nat.reduceAdd, Nat.reduceMul, Nat.reduceLeDiff, Nat.le_refl, Int.natCast_zero, Int.toNat_natCast, Int.reduceToNat]
          · have h := frzOk_ref (l := 34000) (v := 1) (sh := ⟨1, false⟩) (ys := List.map eI (c ++ [(i : Int)])) (xs := []) (r := []) 0 (c.length + 1) (by simp) trivial
            rw [List.drop_zero, htl] at h
            exact h
        · cases F with
          | some k =>
            rw [hend k rfl]
            rw [show r = .tup [eIs k, eB true] from hr]
            clear hr hend
            simp -dsimp -implicitDefEqProofs only [go_sem, ↓reduceIte, Nat.reduceEqDiff, Nat.reduceLT, Nat.reduceAdd, Nat.reduceMul, Nat.reduceLeDiff, Nat.le_refl, Int.natCast_zero, Int.toNat_natCast, Int.reduceToNat]
            exact rfl
          | none =>
            clear hend
            obtain ⟨x, rfl, hx⟩ := hr
            rcases hx with rfl | rfl
            · simp -dsimp -implicitDefEqProofs only [go_sem, ↓reduceIte, Nat.reduceEqDiff, Nat.reduceLT, Nat.reduceAdd, Nat.reduceMul, Nat.reduceLeDiff, Nat.le_refl, Int.natCast_zero, Int.toNat_natCast, Int.reduceToNat]
              exact ⟨by exact rfl, ⟨by omega, by omega⟩, by simp⟩
            · simp -dsimp -implicitDefEqProofs only [go_sem, ↓reduceIte, Nat.reduceEqDiff, Nat.reduceLT, Nat.reduceAdd, Nat.reduceMul, Nat.reduceLeDiff, Nat.le_refl, Int.natCast_zero, Int.toNat_natCast, Int.reduceToNat]
              exact ⟨by exact rfl, ⟨by omega, by omega⟩, by simp⟩
      · have hlt : decide (((m.depths.toNat : Nat) : Int) < m.depths) = false := decide_eq_false (by omega)
        rw [hI]
        clear hI
        simp -dsimp -implicitDefEqProofs only [pick_nil, pick_cons, look_nil, look_cons, dropB_nil, dropB_cons, inD_nil, inD_cons, inE_nil, inE_cons, or_t_l, or_f_l, Nat.reduceBEq, Nat.reduceDiv, Nat.reduceAdd, beq_self_eq_true, Bool.false_eq_true, Bool.or_false, ↓reduceIte, Nat.reduceEqDiff, List.cons_append, List.nil_append]
        simp -dsimp -implicitDefEqProofs only [go_sem, ↓reduceIte, Nat.reduceEqDiff, Nat.reduceLT, Nat.reduceAdd, Nat.reduceMul, Nat.reduceLeDiff, Nat.le_refl, Int.natCast_zero, Int.toNat_natCast, Int.reduceToNat, hlt]
        exact ⟨_, rfl, .inl rfl⟩
/-- the next key behind c, looked for at the last j places -/
def nextTo (m : MkM) (c : List Int) : Nat → Option (List Int)
  | 0 => none
  | j + 1 => match nextTo m c j with
    | some k => some k
    | none => firstD (fun (e : Nat) => firstK m j (c.take (c.length - 1 - j) ++ [c.getD (c.length - 1 - j) 0 + 1 + (e : Int)])) (m.depths - (c.getD (c.length - 1 - j) 0 + 1)).toNat
theorem nextTo_none {m : MkM} {c : List Int} {j : Nat} (h : nextTo m c j = none) : nextTo m c (j + 1) = firstD (fun (e : Nat) => firstK m j (c.take (c.length - 1 - j) ++ [c.getD (c.length - 1 - j) 0 + 1 + (e : Int)])) (m.depths - (c.getD (c.length - 1 - j) 0 + 1)).toNat := by simp [nextTo, h]
theorem nextTo_some {m : MkM} {c k : List Int} {j : Nat} (h : nextTo m c j = some k) : ∀ E, j ≤ E → nextTo m c E = some k
  | 0, hE => by rw [show j = 0 by omega] at h; cases h
  | E + 1, hE => by
    by_cases e : j = E + 1
    · rw [← e]; exact h
    · simp only [nextTo]; rw [nextTo_some h E (by omega)]
theorem c_l02Next (m : MkM) (c : List Int) (hm : isMk m = true) (hl : (c.length : Int) = m.chambers) (hc : ∀ x ∈ c, 0 ≤ x ∧ x < m.depths) : Fn Try.prog 168 [eMk m, eIs c] false (· = optR (nextTo m c c.length)) := by
  have ⟨⟨hch1, hch2⟩, hd1, hd2⟩ := isMk_num hm
  refine Fn.of_vcS 42 [.tmp 4, .tmp 5] Try.func168 rfl rfl rfl rfl rfl (of_decide_eq_true rfl) ?_
  simp -dsimp -implicitDefEqProofs only [go_sem, ↓reduceIte, Nat.reduceEqDiff, Nat.reduceLT, Nat.reduceAdd, Nat.reduceMul, Nat.reduceLeDiff, Nat.le_refl, Int.natCast_zero, Int.toNat_natCast, Int.reduceToNat]
  refine ⟨⟨by omega, by omega⟩, ?_⟩
  refine Later.up [1, 2] [33, 35, 36, 37] [] c.length (fun j => nextTo m c j = none) (fun j => [(6, eI ((c.length : Int) - 1 - (j : Int)))]) (fun _ => []) rfl ?_ rfl (fun j hj hJ => ?_) (fun hJ => ?_)
  · simp -dsimp -implicitDefEqProofs only [go_sem, ↓reduceIte, Nat.reduceEqDiff, Nat.reduceLT, Nat.reduceAdd, Nat.reduceMul, Nat.reduceLeDiff, Nat.le_refl, Int.natCast_zero, Int.toNat_natCast, Int.reduceToNat]
    all_goals first | (simp; done) | trace_state
  · have hlt : decide ((c.length : Int) - 1 - (j : Int) ≥ 0) = true := decide_eq_true (by omega)
    have hnx := nextTo_none hJ
    have hend : ∀ k, nextTo m c (j + 1) = some k → nextTo m c c.length = some k := fun k hk => nextTo_some hk _ (by omega)
    have hi : c.length - 1 - j < c.length := by omega
    have hcast : (c.length : Int) - 1 - (j : Int) = ((c.length - 1 - j : Nat) : Int) := by omega
    have hx := hc c[c.length - 1 - j] (List.getElem_mem hi)
    have hgd : c.getD (c.length - 1 - j) 0 = c[c.length - 1 - j] := by simp [List.getD_eq_getElem?_getD, hi]
    have gi := get_some hi
    have hneg : (c.length : Int) - 1 - ((j + 1 : Nat) : Int) = ((c.length - 1 - j : Nat) : Int) - 1 := by omega
    rw [hgd] at hnx
    rw [hcast] at hlt
    rw [hcast, hneg]
    clear hJ hcast hgd hneg
    generalize hI : c.length - 1 - j = i at *
    generalize c[i] = z at *
    rw [hnx]
    have hend' : ∀ k, firstD (fun (e : Nat) => firstK m j (c.take i ++ [z + 1 + (e : Int)])) (m.depths - (z + 1)).toNat = some k → nextTo m c c.length = some k := fun k hk => hend k (hnx.trans hk)
    clear hnx hend
    simp -dsimp -implicitDefEqProofs only [pick_nil, pick_cons, look_nil, look_cons, dropB_nil, dropB_cons, inD_nil, inD_cons, inE_nil, inE_cons, or_t_l, or_f_l, Nat.reduceBEq, Nat.reduceDiv, Nat.reduceAdd, beq_self_eq_true, Bool.false_eq_true, Bool.or_false, ↓reduceIte, Nat.reduceEqDiff, List.cons_append, List.nil_append]
    simp -dsimp -implicitDefEqProofs only [go_sem, ↓reduceIte, Nat.reduceEqDiff, Nat.reduceLT, Nat.reduceAdd, Nat.reduceMul, Nat.reduceLeDiff, Nat.le_refl, Int.natCast_zero, Int.toNat_natCast, Int.reduceToNat, hlt, gi]
    refine ⟨by omega, ⟨by omega, by omega⟩, ?_⟩
    refine Later.up [1, 2, 6] [33, 35, 36, 37] [] (m.depths - (z + 1)).toNat (fun e => firstD (fun (e : Nat) => firstK m j (c.take i ++ [z + 1 + (e : Int)])) e = none) (fun e => [(7, eI (z + 1 + (e : Int)))]) (fun _ => []) rfl ?_ rfl (fun e he hE => ?_) (fun hE => ?_)
    · simp -dsimp -implicitDefEqProofs only [go_sem, ↓reduceIte, Nat.reduceEqDiff, Nat.reduceLT, Nat.reduceAdd, Nat.reduceMul, Nat.reduceLeDiff, Nat.le_refl, Int.natCast_zero, Int.toNat_natCast, Int.reduceToNat]
      all_goals first | (simp; done) | trace_state
    · have hlt2 : decide (z + 1 + (e : Int) < m.depths) = true := decide_eq_true (by omega)
      have hlenT : (c.take i).length = i := by simp; omega
      have hih := c_l02First m hm j (c.take i ++ [z + 1 + (e : Int)]) (by simp; omega) (fun x hx2 => by
        rcases List.mem_append.1 hx2 with h | h
        · have := hc x (List.mem_of_mem_take h); omega
        · simp at h; omega)
      have hown := c_l01Own (c.take i) (by omega)
      have htk : List.take i (List.map eI c) = List.map eI (c.take i) := List.map_take.symm
      have hnx := firstD_none hE
      have hend2 : ∀ k, firstK m j (c.take i ++ [z + 1 + (e : Int)]) = some k → nextTo m c c.length = some k := fun k hk => hend' k (firstD_some (hnx.trans hk) _ (by omega))
      rw [hnx]
      clear hE hnx hend' hc
      unfold firstR at hih
      generalize c.take i = T at *
      have hmap : List.map eI T ++ [eI (z + 1 + (e : Int))] = List.map eI (T ++ [z + 1 + (e : Int)]) := by simp
      have htl : List.take (i + 1) (List.map eI (T ++ [z + 1 + (e : Int)])) = List.map eI (T ++ [z + 1 + (e : Int)]) := List.take_of_length_le (by simp; omega)
      have htl2 : List.take i (List.map eI T) = List.map eI T := List.take_of_length_le (by simp; omega)
      generalize firstK m j (T ++ [z + 1 + (e : Int)]) = F at *
      simp -dsimp -implicitDefEqProofs only [pick_nil, pick_cons, look_nil, look_cons, dropB_nil, dropB_cons, inD_nil, inD_cons, inE_nil, inE_cons, or_t_l, or_f_l, Nat.reduceBEq, Nat.reduceDiv, Nat.reduceAdd, beq_self_eq_true, Bool.false_eq_true, Bool.or_false, ↓reduceIte, Nat.reduceEqDiff, List.cons_append, List.nil_append]
      simp -dsimp -implicitDefEqProofs only [go_sem, ↓reduceIte, Nat.reduceEqDiff, Nat.reduceLT, Nat.reduceAdd, Nat.reduceMul, Nat.reduceLeDiff, Nat.le_refl, Int.natCast_zero, Int.toNat_natCast, Int.reduceToNat, hlt2]
      refine Later.duo 8 mixed rfl ?_
      simp -dsimp -implicitDefEqProofs only [List.take_succ_cons, List.take_zero, List.drop_succ_cons, List.drop_zero]
      simp -dsimp -implicitDefEqProofs only [go_sem, ↓reduceIte, Nat.reduceEqDiff, Nat.reduceLT, Nat.reduceAdd, Nat.reduceMul, Nat.reduceLeDiff, Nat.le_refl, Int.natCast_zero, Int.toNat_natCast, Int.reduceToNat, htk]
      refine ⟨by omega, ?_⟩
      (refine sCallX_one (hown) ?_; try simp -dsimp -implicitDefEqProofs only [go_sem, ↓reduceIte, Nat.reduceEqDiff, Nat.reduceLT, Nat.reduceAdd, Nat.reduceMul, Nat.reduceLeDiff, Nat.le_refl, Int.natCast_zero, Int.toNat_natCast, Int.reduceToNat, *])
      refine ⟨by omega, ?_⟩
      refine ⟨by exact rfl, ?_⟩
      refine sCallT_frz 34000 1 ⟨1, false⟩ true (List.map eI (T ++ [z + 1 + (e : Int)])) hih (by decide) ?_ ?_ fun r hr => ?_
      · simp -dsimp -implicitDefEqProofs only [go_sem, ↓reduceIte, Nat.reduceEqDiff, Nat.reduceLT, Nat.reduceAdd, Nat.reduceMul, Nat.reduceLeDiff, Nat.le_refl, Int.natCast_zero, Int.toNat_natCast, Int.reduceToNat]
      · refine frzOk_no ?_ rfl ?_
        · simp -dsimp -implicitDefEqProofs only [go_sem, ↓reduceIte, Nat.reduceEqDiff, Nat.reduceLT, Nat.reduceAdd, Nat.reduceMul, Nat.reduceLeDiff, Nat.le_refl, Int.natCast_zero, Int.toNat_natCast, Int.reduceToNat]
        · have h := frzOk_ref (l := 34000) (v := 1) (sh := ⟨1, false⟩) (ys := List.map eI (T ++ [z + 1 + (e : Int)])) (xs := []) (r := []) 0 (i + 1) (by simp; omega) trivial
          rw [List.drop_zero, htl] at h
          exact h
      · cases F with
        | some k =>
          rw [hend2 k rfl]
          rw [show r = .tup [eIs k, eB true] from hr]
          clear hr hend2
          simp -dsimp -implicitDefEqProofs only [go_sem, ↓reduceIte, Nat.reduceEqDiff, Nat.reduceLT, Nat.reduceAdd, Nat.reduceMul, Nat.reduceLeDiff, Nat.le_refl, Int.natCast_zero, Int.toNat_natCast, Int.reduceToNat, optR]
          exact rfl
        | none =>
          clear hend2
          obtain ⟨x, rfl, hx⟩ := hr
          rcases hx with rfl | rfl
          · simp -dsimp -implicitDefEqProofs only [go_sem, ↓reduceIte, Nat.reduceEqDiff, Nat.reduceLT, Nat.reduceAdd, Nat.reduceMul, Nat.reduceLeDiff, Nat.le_refl, Int.natCast_zero, Int.toNat_natCast, Int.reduceToNat]
            exact ⟨by exact rfl, ⟨by omega, by omega⟩, by simp; omega⟩
          · simp -dsimp -implicitDefEqProofs only [go_sem, ↓reduceIte, Nat.reduceEqDiff, Nat.reduceLT, Nat.reduceAdd, Nat.reduceMul, Nat.reduceLeDiff, Nat.le_refl, Int.natCast_zero, Int.toNat_natCast, Int.reduceToNat]
            exact ⟨by exact rfl, ⟨by omega, by omega⟩, by simp; omega⟩
    · have hlt2 : decide (z + 1 + (((m.depths - (z + 1)).toNat : Nat) : Int) < m.depths) = false := decide_eq_false (by omega)
      rw [hE]
      simp -dsimp -implicitDefEqProofs only [pick_nil, pick_cons, look_nil, look_cons, dropB_nil, dropB_cons, inD_nil, inD_cons, inE_nil, inE_cons, or_t_l, or_f_l, Nat.reduceBEq, Nat.reduceDiv, Nat.reduceAdd, beq_self_eq_true, Bool.false_eq_true, Bool.or_false, ↓reduceIte, Nat.reduceEqDiff, List.cons_append, List.nil_append]
      simp -dsimp -implicitDefEqProofs only [go_sem, ↓reduceIte, Nat.reduceEqDiff, Nat.reduceLT, Nat.reduceAdd, Nat.reduceMul, Nat.reduceLeDiff, Nat.le_refl, Int.natCast_zero, Int.toNat_natCast, Int.reduceToNat, hlt2]
      first | exact ⟨by omega, by omega⟩ | trace_state
  · have hlt : decide ((c.length : Int) - 1 - (c.length : Int) ≥ 0) = false := decide_eq_false (by omega)
    rw [hJ]
    clear hJ
    simp -dsimp -implicitDefEqProofs only [pick_nil, pick_cons, look_nil, look_cons, dropB_nil, dropB_cons, inD_nil, inD_cons, inE_nil, inE_cons, or_t_l, or_f_l, Nat.reduceBEq, Nat.reduceDiv, Nat.reduceAdd, beq_self_eq_true, Bool.false_eq_true, Bool.or_false, ↓reduceIte, Nat.reduceEqDiff, List.cons_append, List.nil_append]
    simp -dsimp -implicitDefEqProofs only [go_sem, ↓reduceIte, Nat.reduceEqDiff, Nat.reduceLT, Nat.reduceAdd, Nat.reduceMul, Nat.reduceLeDiff, Nat.le_refl, Int.natCast_zero, Int.toNat_natCast, Int.reduceToNat, hlt, optR]
end Go.Vc

/-
  A valid maker has a key.
-/
set_option linter.unusedVariables false
set_option linter.unusedSimpArgs false
set_option linter.unnecessarySimpa false
namespace Go.Vc
open Go.Proofs
set_option maxRecDepth 100000
set_option maxHeartbeats 4000000
theorem firstD_not {f : Nat → Option (List Int)} {d : Nat} (h : f d ≠ none) : ∀ D, d < D → firstD f D ≠ none
  | 0, hd => absurd hd (Nat.not_lt_zero _)
  | D + 1, hd => by
    simp only [firstD]
    cases hh : firstD f D with
    | some k => exact fun h => by cases h
    | none =>
      by_cases e : d = D
      · subst e; exact h
      · exact absurd hh (firstD_not h D (by omega))
theorem firstK_not {m : MkM} : ∀ (n : Nat) (c t : List Int), t.length = n → okTo m (c ++ t) = true → m.least ≤ (kindsTo (c ++ t) (c ++ t).length : Int) → (∀ x ∈ t, 0 ≤ x ∧ x < m.depths) → firstK m n c ≠ none
  | 0, c, t, hl, ho, hk, hx => by
    obtain rfl := List.eq_nil_of_length_eq_zero hl
    rw [List.append_nil] at ho hk
    rw [firstK, if_pos ⟨ho, hk⟩]
    exact fun h => by cases h
  | n + 1, c, t, hl, ho, hk, hx => by
    cases t with
    | nil => cases hl
    | cons d t =>
      have hd := hx d (List.mem_cons_self ..)
      have hoc : okTo m c = true := by
        have := okTo_take' ho (i := c.length) (by simp)
        rwa [List.take_left'] at this
        rfl
      rw [firstK, if_pos hoc]
      refine firstD_not (d := d.toNat) ?_ _ (by omega)
      have e : ((d.toNat : Nat) : Int) = d := by omega
      rw [e]
      have e2 : c ++ d :: t = (c ++ [d]) ++ t := by simp
      rw [e2] at ho hk
      exact firstK_not n (c ++ [d]) t (by simpa using hl) ho hk fun x hx2 => hx x (List.mem_cons_of_mem _ hx2)
theorem firstK_len {m : MkM} : ∀ (n : Nat) (c k : List Int), firstK m n c = some k → k.length = c.length + n ∧ okTo m k = true ∧ (m.least ≤ (kindsTo k k.length : Int)) ∧ ((∀ x ∈ c, 0 ≤ x ∧ x < m.depths) → ∀ x ∈ k, 0 ≤ x ∧ x < m.depths)
  | 0, c, k, h => by
    rw [firstK] at h
    split at h
    · rename_i hc
      injection h with h
      subst h
      exact ⟨rfl, hc.1, hc.2, fun h => h⟩
    · cases h
  | n + 1, c, k, h => by
    rw [firstK] at h
    split at h
    · obtain ⟨d, h1, h2⟩ := firstD_out h
      obtain ⟨g1, g2, g3, g4⟩ := firstK_len n _ k h2
      refine ⟨by rw [g1]; simp; omega, g2, g3, fun hc => g4 fun x hx => ?_⟩
      rcases List.mem_append.1 hx with h | h
      · exact hc x h
      · simp at h; omega
    · cases h
def zig (ch dp : Int) : List Int := (([0, 1, 2, 3, 4, 5] : List Int).map fun x => if x < dp then x else if (x - dp).tmod 2 = 0 then dp - 2 else dp - 1).take ch.toNat
def zigB (C D : Int) : Bool :=
  (zig C D).length == C.toNat && (List.range (zig C D).length).all (fun i => decide (runAt (zig C D) i ≤ 1) && (i == 0 || decide (absN ((zig C D).getD i 0 - (zig C D).getD (i - 1) 0) ≤ 1))) &&
    decide ((if D < C then D else C) ≤ (kindsTo (zig C D) (zig C D).length : Int)) && (zig C D).all fun x => decide (0 ≤ x) && decide (x < D)
theorem zigB_all : ((List.range 5).all fun c => (List.range 7).all fun d => zigB ((c : Int) + 2) ((d : Int) + 2)) = true := by decide +kernel
theorem zig_ok {m : MkM} (hm : isMk m = true) : (zig m.chambers m.depths).length = m.chambers.toNat ∧ okTo m (zig m.chambers m.depths) = true ∧ m.least ≤ (kindsTo (zig m.chambers m.depths) (zig m.chambers m.depths).length : Int) ∧ ∀ x ∈ zig m.chambers m.depths, 0 ≤ x ∧ x < m.depths := by
  have hnum := isMk_num hm
  have hs := isMk_same hm
  have hl : m.least ≤ if m.depths < m.chambers then m.depths else m.chambers := by
    simp only [isMk, isIn, Bool.and_eq_true, decide_eq_true_eq] at hm
    exact hm.2.2
  have h1 := List.all_eq_true.1 zigB_all (m.chambers.toNat - 2) (List.mem_range.2 (by omega))
  have h2 := List.all_eq_true.1 h1 (m.depths.toNat - 2) (List.mem_range.2 (by omega))
  rw [show ((m.chambers.toNat - 2 : Nat) : Int) + 2 = m.chambers by omega, show ((m.depths.toNat - 2 : Nat) : Int) + 2 = m.depths by omega] at h2
  unfold zigB at h2
  simp only [Bool.and_eq_true, beq_iff_eq, decide_eq_true_eq] at h2
  obtain ⟨⟨⟨g1, g2⟩, g3⟩, g4⟩ := h2
  generalize zig m.chambers m.depths = z at *
  refine ⟨g1, ?_, by omega, fun x hx => ?_⟩
  · unfold okTo
    rw [List.all_eq_true] at g2 ⊢
    intro i hi
    have := g2 i hi
    simp only [Bool.and_eq_true, decide_eq_true_eq, Bool.or_eq_true, beq_iff_eq] at this ⊢
    refine ⟨by omega, ?_⟩
    unfold stepAt
    rcases this.2 with h | h
    · simp [h]
    · rw [decide_eq_true (show absN (z.getD i 0 - z.getD (i - 1) 0) ≤ m.step by omega)]; simp
  · have := List.all_eq_true.1 g4 x hx
    simpa using this
theorem firstK_some {m : MkM} (hm : isMk m = true) : ∃ k, firstK m m.chambers.toNat [] = some k := by
  obtain ⟨h1, h2, h3, h4⟩ := zig_ok hm
  have := firstK_not m.chambers.toNat [] (zig m.chambers m.depths) h1 h2 h3 h4
  cases hh : firstK m m.chambers.toNat [] with
  | some k => exact ⟨k, rfl⟩
  | none => exact absurd hh this
theorem nextTo_len {m : MkM} {c k : List Int} (hl : (c.length : Int) = m.chambers) (hc : ∀ x ∈ c, 0 ≤ x ∧ x < m.depths) : ∀ j, j ≤ c.length → nextTo m c j = some k → k.length = c.length ∧ okTo m k = true ∧ m.least ≤ (kindsTo k k.length : Int) ∧ ∀ x ∈ k, 0 ≤ x ∧ x < m.depths
  | 0, _, h => by cases h
  | j + 1, hj, h => by
    cases hh : nextTo m c j with
    | some k' =>
      rw [nextTo_some hh (j + 1) (by omega)] at h
      injection h with h
      subst h
      exact nextTo_len hl hc j (by omega) hh
    | none =>
      rw [nextTo_none hh] at h
      obtain ⟨e, h1, h2⟩ := firstD_out h
      obtain ⟨g1, g2, g3, g4⟩ := firstK_len j _ k h2
      have hi : c.length - 1 - j < c.length := by omega
      have hx := hc c[c.length - 1 - j] (List.getElem_mem hi)
      have hgd : c.getD (c.length - 1 - j) 0 = c[c.length - 1 - j] := by simp [List.getD_eq_getElem?_getD, hi]
      rw [hgd] at h1 g1 g4
      refine ⟨by rw [g1]; simp; omega, g2, g3, g4 fun x hx2 => ?_⟩
      rcases List.mem_append.1 hx2 with h | h
      · exact hc x (List.mem_of_mem_take h)
      · simp at h; omega
end Go.Vc

