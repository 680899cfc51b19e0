import Derived.ProofKit
import Derived.OpenShut
import Derived.ChangeOld
import Derived.Below
import Derived.Carry
import Derived.Deep.Slices
import Derived.Sort.Grow
import Derived.Shelf.SlGeneric
import Derived.Ground.SlgnProg
import Derived.Shelf.SortG.Plain
import Derived.Shelf.SlicesG.CompactI
import Derived.Shelf.SortG.SortNone
import Derived.Test.YtgdjpnahpanaoaaGreatProg
import Derived.Lib.SlicesCompact
import Derived.Test.YtgdjpnahpanaoaaGreatPkLawOrderStockC
/-
  From what a call is handed, read as data, to abstract values.
-/
set_option linter.unusedVariables false
set_option linter.unusedSimpArgs false
set_option linter.unnecessarySimpa false
namespace Go.Vc
open Go.RowKit (Below)
open Go.ChangeShapes Go.WideShapes Go.ChangeAt Go.Deep

theorem Grown.below {w w' : World} (h : Grown w w') : Below w.heap.size w w' := ⟨h.out.os, h.out.tape, h.out.output, h.size, h.same⟩

def CellsRd (w : World) (xs : List AV) (cs : List Value) : Prop := cs.length = xs.length ∧ ∀ i (h : i < xs.length), leaf xs[i] ∧ Rd w (Now w) xs[i] (cs.getD i Go.undef)

/-- What reads as data at type t reads as 'f a', for some a. -/
def Dec (P : Program) (t : TypeId) {α : Type} (ok : α → Prop) (f : α → List AV) : Prop :=
  ∀ (H : Type) (enc : TypeId × Value → H) (w : World) (base : Nat) (held : Bool) (fuel : Nat) (cs : List Value) (x : DataW H × List MemPlace),
    DataW.trod enc P w base (fun _ => true) held fuel t cs = some x → ∃ a, ok a ∧ CellsRd w (f a) cs

theorem CellsRd.one {w : World} {x : AV} {v : Value} (hl : leaf x) (h : Rd w (Now w) x v) : CellsRd w [x] [v] := ⟨rfl, fun i hi => by
  have : i = 0 := by simpa using hi
  subst this; exact ⟨hl, h⟩⟩

theorem Dec.int {P : Program} {t : TypeId} {k : IntKind} (ht : P.underlying t = some (.int k)) : Dec P t (fun n : Int => (Lit.int k n).wf = true) (fun n => [.val (.int k n)]) := fun H enc w base held fuel cs x h => by
  obtain ⟨n, rfl, _, hw⟩ := DataW.trod_int ht h
  exact ⟨n, hw, .one trivial (.val _ rfl)⟩
theorem Dec.i64 {P : Program} {t : TypeId} (ht : P.underlying t = some (.int .i64)) : Dec P t I64 (fun n : Int => [.val (.int .i64 n)]) := fun H enc w base held fuel cs x h => by
  obtain ⟨n, rfl, _, hw⟩ := DataW.trod_int ht h
  exact ⟨n, bounds_i64 hw, .one trivial (.val _ rfl)⟩
theorem Dec.u8 {P : Program} {t : TypeId} (ht : P.underlying t = some (.int .u8)) : Dec P t (fun _ => True) (fun n : UInt8 => [.val (.int .u8 n.toNat)]) := fun H enc w base held fuel cs x h => by
  obtain ⟨n, rfl, _, hw⟩ := DataW.trod_int ht h
  have hb := bounds_u8 hw
  refine ⟨UInt8.ofNat n.toNat, trivial, .one trivial ?_⟩
  have : ((UInt8.ofNat n.toNat).toNat : Int) = n := by simp; omega
  rw [this]; exact .val _ rfl
theorem Dec.bool {P : Program} {t : TypeId} (ht : P.underlying t = some .bool) : Dec P t (fun _ => True) (fun b : Bool => [.val (.bool b)]) := fun H enc w base held fuel cs x h => by
  obtain ⟨b, rfl, _⟩ := DataW.trod_bool ht h
  exact ⟨b, trivial, .one trivial (.val _ rfl)⟩
theorem Dec.string {P : Program} {t : TypeId} (ht : P.underlying t = some .string) : Dec P t (fun s : ByteArray => s.size ≤ maxLen) (fun s => [.val (.string s)]) := fun H enc w base held fuel cs x h => by
  obtain ⟨s, rfl, _, hs⟩ := DataW.trod_string ht h
  exact ⟨s, hs, .one trivial (.val _ rfl)⟩

theorem Dec.map {P : Program} {t : TypeId} {α β : Type} {ok : α → Prop} {f : α → List AV} {ok' : β → Prop} {f' : β → List AV} (h : Dec P t ok f) (hm : ∀ a, ok a → ∃ b, ok' b ∧ f' b = f a) : Dec P t ok' f' := fun H enc w base held fuel cs x hx => by
  obtain ⟨a, h1, h2⟩ := h H enc w base held fuel cs x hx
  obtain ⟨b, h3, h4⟩ := hm a h1
  exact ⟨b, h3, by rw [h4]; exact h2⟩

theorem list_of {α : Type} (g : Nat → Option α) : ∀ (len : Nat), (∀ i, i < len → ∃ b, g i = some b) → ∃ xs : List α, xs.length = len ∧ ∀ i (hi : i < xs.length), g i = some xs[i]
  | 0, _ => ⟨[], rfl, fun i hi => absurd hi (Nat.not_lt_zero _)⟩
  | k + 1, hg => by
    obtain ⟨xs, h1, h2⟩ := list_of g k fun i hi => hg i (by omega)
    obtain ⟨b, hb⟩ := hg k (by omega)
    refine ⟨xs ++ [b], by simp [h1], fun i hi => ?_⟩
    by_cases hik : i < xs.length
    · rw [List.getElem_append_left hik]; exact h2 i hik
    · have : i = k := by simp at hi; omega
      subst this
      rw [List.getElem_append_right (by omega)]; simp [h1, hb]

theorem add_block (a : Addr) (k : Nat) : (a.add k).block = a.block := by unfold Addr.add; split <;> rfl
theorem add_off (a : Addr) (k : Nat) : (a.add k).off = a.off + k := by
  unfold Addr.add; split
  · rename_i h; rw [h]; rfl
  · rfl

theorem cell_out {w : World} {a : Addr} {v : Value} (h : w.cell? a = some v) : ∃ cs e fr, w.heap[a.block]? = some (.cells cs e fr) ∧ cs[a.off]? = some v := by
  unfold World.cell? at h
  split at h
  · split at h
    · cases h
    · exact ⟨_, _, _, ‹_›, h⟩
  · cases h

/-- an element of so many cells -/
def elOf (ag : Bool) (xs : List AV) : AV := if ag then .agg xs else xs.getD 0 .undef

theorem Dec.slice {P : Program} {t e : TypeId} {α : Type} {ok : α → Prop} {f : α → List AV} (ag : Bool) (n : Nat) (ht : P.underlying t = some (.slice e)) (hn : P.cellsOf e = n) (h0 : 0 < n) (hag : ag = false → n = 1)
    (hlen : ∀ a, (f a).length = n) (hd : Dec P e ok f) : Dec P t (fun xs : List α => xs.length ≤ maxLen ∧ ∀ a ∈ xs, ok a) (fun xs => [.arr ⟨n, ag⟩ (xs.map fun a => elOf ag (f a))]) := fun H enc w base held fuel cs x h => by
  rcases open_slice ht h with ⟨rfl, _⟩ | ⟨a, len, cap, m, n', D, Pl, rfl, hb, hl, hm, hmm, _, hel⟩
  · exact ⟨[], ⟨Nat.zero_le _, by simp⟩, .one trivial (.nil _ _)⟩
  · simp only [if_true] at hmm
    rw [hn, hmm] at hel
    clear hmm
    by_cases hc : cap = 0
    · subst hc
      have : len = 0 := by omega
      subst this
      exact ⟨[], ⟨Nat.zero_le _, by simp⟩, .one trivial (.nil _ _)⟩
    · -- the block
      have cellAt : ∀ i, i < cap → ∀ j, j < n → ∃ v, w.cell? (a.add (i * n + j)) = some v := by
        intro i hi j hj
        obtain ⟨cs', h1, _⟩ := hel i hi
        obtain ⟨_, h2, h3⟩ := World.cells?_some h1
        have := h3 j hj
        rw [add_add] at this
        exact ⟨cs'[j]'(by omega), by rw [this]; exact List.getElem?_eq_getElem (by omega)⟩
      obtain ⟨v00, h00⟩ := cellAt 0 (by omega) 0 h0
      have hsp : a.spot = none := by simpa [Addr.add] using World.cell?_spot h00
      obtain ⟨bcs, be, bfr, hheap, hoff0⟩ := cell_out h00
      have hheap : w.heap[a.block]? = some (.cells bcs be bfr) := by simpa [add_block] using hheap
      have hoff0 : bcs[a.off]? = some v00 := by simpa [add_off] using hoff0
      have cells : ∀ i, i < cap → ∀ j, j < n → ∀ v, w.cell? (a.add (i * n + j)) = some v → bcs[a.off + (i * n + j)]? = some v := by
        intro i hi j hj v hv
        obtain ⟨cs2, e2, fr2, g1, g2⟩ := cell_out hv
        have g1 : w.heap[a.block]? = some (.cells cs2 e2 fr2) := by simpa [add_block] using g1
        rw [hheap] at g1; cases g1
        simpa [add_off] using g2
      have size : ∀ i, i < cap → a.off + (i + 1) * n ≤ bcs.size := by
        intro i hi
        obtain ⟨v, hv⟩ := cellAt i hi (n - 1) (by omega)
        have := cells i hi (n - 1) (by omega) v hv
        have := (Array.getElem?_eq_some_iff.1 this).1
        rw [Nat.add_mul]; omega
      obtain ⟨g, hg⟩ : ∃ g : Nat → Option α, ∀ i, i < len → ∃ b, g i = some b ∧ ok b ∧ ∃ cs', w.cells? base (a.add (i * n)) n = some cs' ∧ CellsRd w (f b) cs' := by
        refine choose_lt (p := fun i (o : Option α) => ∃ b, o = some b ∧ ok b ∧ ∃ cs', w.cells? base (a.add (i * n)) n = some cs' ∧ CellsRd w (f b) cs') fun i hi => ?_
        obtain ⟨cs', h1, h2⟩ := hel i (by omega)
        obtain ⟨b, h3, h4⟩ := hd H enc w base held n' cs' _ h2
        exact ⟨some b, b, rfl, h3, cs', h1, h4⟩
      have hxs : ∃ xs : List α, xs.length = len ∧ ∀ i (hi : i < xs.length), g i = some xs[i] := by
        exact list_of g len fun i hi => by obtain ⟨b, hb, _⟩ := hg i hi; exact ⟨b, hb⟩
      obtain ⟨xs, hxl, hxs⟩ := hxs
      have hel2 : ∀ i (hi : i < xs.length), ok xs[i] ∧ ∃ cs', w.cells? base (a.add (i * n)) n = some cs' ∧ CellsRd w (f xs[i]) cs' := by
        intro i hi
        obtain ⟨b, h1, h2, h3⟩ := hg i (by omega)
        rw [hxs i hi] at h1; cases h1
        exact ⟨h2, h3⟩
      refine ⟨xs, ⟨by omega, fun b hb => ?_⟩, .one trivial ?_⟩
      · obtain ⟨i, hi, rfl⟩ := List.getElem_of_mem hb
        exact (hel2 i hi).1
      · have ea : a = ⟨a.block, a.off, none⟩ := by cases a; simp at hsp; subst hsp; rfl
        have hlen2 : (xs.map fun b => elOf ag (f b)).length = len := by simp [hxl]
        rw [ea, ← hlen2]
        refine .arr ⟨n, ag⟩ _ a.block a.off cap bcs be bfr (Array.getElem?_eq_some_iff.1 hheap).1 hheap (by omega) ?_ ?_ ?_
        · rw [hlen2]
          show a.off + len * n ≤ bcs.size
          by_cases h0l : len = 0
          · subst h0l
            have := size 0 (by omega)
            omega
          · have := size (len - 1) (by omega)
            rwa [show len - 1 + 1 = len by omega] at this
        · intro i hi
          rw [List.getElem_map]
          cases ag with
          | true => exact ⟨rfl, hlen _⟩
          | false =>
            have hi' : i < xs.length := by simpa using hi
            obtain ⟨_, cs', _, h2⟩ := hel2 i hi'
            have h1 := hlen xs[i]
            have := (h2.2 0 (by omega)).1
            have e1 : elOf false (f xs[i]) = (f xs[i])[0]'(by omega) := by simp [elOf, List.getD_eq_getElem?_getD, List.getElem?_eq_getElem (show 0 < (f xs[i]).length by omega)]
            rw [e1]
            have hn1 := hag rfl
            unfold fits
            split <;> first | (rename_i hh; rw [hh] at this; exact this.elim) | exact ⟨rfl, hn1⟩
        · intro i hi
          have hi' : i < xs.length := by simpa using hi
          rw [List.getElem_map]
          obtain ⟨_, cs', h1, h2⟩ := hel2 i hi'
          obtain ⟨_, h3, h4⟩ := World.cells?_some h1
          have hcell : ∀ j, j < n → bcs[a.off + (i * n + j)]? = cs'[j]? := by
            intro j hj
            have := h4 j hj
            rw [add_add] at this
            rw [List.getElem?_eq_getElem (by omega)] at this ⊢
            exact cells i (by omega) j hj _ this
          have hsz := size i (by omega)
          cases ag with
          | true =>
            have e2 : elemV bcs.toList (a.off + i * n) ⟨n, true⟩ = .agg cs'.toArray := by
              simp only [elemV, if_true]
              congr 2
              apply List.ext_getElem?
              intro j
              by_cases hj : j < n
              · rw [List.getElem?_take, if_pos hj, List.getElem?_drop, ← hcell j hj]; simp [Nat.add_assoc]
              · rw [List.getElem?_take, if_neg hj, List.getElem?_eq_none (by omega)]
            show Rd w (Now w) (elOf true (f xs[i])) (elemV bcs.toList (a.off + i * n) ⟨n, true⟩)
            rw [e2]
            exact .agg _ _ (by simpa using h2.1) (fun j hj => (h2.2 j hj).1) (fun j hj => (h2.2 j hj).2)
          | false =>
            have hn1 := hag rfl
            subst hn1
            have hl1 := hlen xs[i]
            have e2 : elemV bcs.toList (a.off + i * 1) ⟨1, false⟩ = cs'.getD 0 Go.undef := by
              simp only [elemV, Bool.false_eq_true, if_false, List.getD_eq_getElem?_getD]
              have := hcell 0 (by omega)
              rw [Nat.add_zero] at this
              rw [← this]; simp
            show Rd w (Now w) (elOf false (f xs[i])) (elemV bcs.toList (a.off + i * 1) ⟨1, false⟩)
            rw [e2]
            have e1 : elOf false (f xs[i]) = (f xs[i])[0]'(by omega) := by simp [elOf, List.getD_eq_getElem?_getD, List.getElem?_eq_getElem (show 0 < (f xs[i]).length by omega)]
            rw [e1]
            exact (h2.2 0 (by omega)).2

/-- The fields of a struct, one behind the other. -/
inductive Flds (P : Program) : List Field → Nat → {α : Type} → (α → Prop) → (α → List AV) → Prop
  | nil (o : Nat) : Flds P [] o (fun _ : Unit => True) (fun _ => [])
  | cons {α β : Type} {f : Field} {r : List Field} {o n : Nat} {ok : α → Prop} {g : α → List AV} {ok' : β → Prop} {g' : β → List AV} (ho : f.offset = o) (hn : P.cellsOf f.type = n) (hl : ∀ a, (g a).length = n) (hd : Dec P f.type ok g) (hr : Flds P r (o + n) ok' g') :
      Flds P (f :: r) o (fun p : α × β => ok p.1 ∧ ok' p.2) (fun p => g p.1 ++ g' p.2)

theorem Flds.out {P : Program} {fs : List Field} {o : Nat} {α : Type} {ok : α → Prop} {g : α → List AV} (h : Flds P fs o ok g) {H : Type} {enc : TypeId × Value → H} {w : World} {base : Nat} {held : Bool} {fuel : Nat} {cs : List Value}
    (hx : ∀ f, f ∈ fs → ∃ x, DataW.trod enc P w base (fun _ => true) held fuel f.type ((cs.drop f.offset).take (P.cellsOf f.type)) = some x) : ∃ a, ok a ∧ CellsRd w (g a) ((cs.drop o).take (g a).length) := by
  induction h with
  | nil o => exact ⟨(), trivial, by simp, fun i hi => absurd hi (Nat.not_lt_zero _)⟩
  | @cons α β f r o n ok g ok' g' ho hn hl hd hr ih =>
    obtain ⟨x, h1⟩ := hx f (List.mem_cons_self ..)
    obtain ⟨a, h2, h3⟩ := hd H enc w base held fuel _ x h1
    obtain ⟨b, h4, h5⟩ := ih fun f hf => hx f (List.mem_cons_of_mem _ hf)
    rw [hn, ho] at h3
    have e : (cs.drop o).take (g a ++ g' b).length = (cs.drop o).take n ++ (cs.drop (o + n)).take (g' b).length := by
      rw [List.length_append, hl, List.take_add, List.drop_drop]
    refine ⟨(a, b), ⟨h2, h4⟩, ?_⟩
    show CellsRd w (g a ++ g' b) ((cs.drop o).take (g a ++ g' b).length)
    rw [e]
    have hla := h3.1
    refine ⟨by rw [List.length_append, List.length_append, hla, h5.1], fun i hi => ?_⟩
    by_cases hia : i < (g a).length
    · rw [List.getElem_append_left hia]
      have := h3.2 i hia
      refine ⟨this.1, ?_⟩
      rw [List.getD_eq_getElem?_getD, List.getElem?_append_left (by omega), ← List.getD_eq_getElem?_getD]
      exact this.2
    · have hi2 : i - (g a).length < (g' b).length := by simp at hi; omega
      rw [List.getElem_append_right (by omega)]
      have := h5.2 _ hi2
      refine ⟨this.1, ?_⟩
      rw [List.getD_eq_getElem?_getD, List.getElem?_append_right (by omega), hla, ← List.getD_eq_getElem?_getD]
      exact this.2

theorem Dec.struct {P : Program} {t : TypeId} {fs : List Field} {α : Type} {ok : α → Prop} {g : α → List AV} {n : Nat} (ht : P.underlying t = some (.struct ⟨fs⟩)) (hn : P.cellsOf t = n) (hf : Flds P fs 0 ok g) (hl : ∀ a, (g a).length = n) : Dec P t ok g := fun H enc w base held fuel cs x h => by
  obtain ⟨xs, n', rfl, _, h1, h2, h3⟩ := DataW.trod_struct ht h
  obtain ⟨a, h4, h5⟩ := hf.out (H := H) (enc := enc) (w := w) (base := base) (held := held) (fuel := n') (cs := cs) fun f hf => by
    obtain ⟨i, hi, rfl⟩ := List.getElem_of_mem hf
    have := h3 i fs[i] (by simp)
    have hxl : i < xs.length := by rw [h2]; simpa using hi
    rw [List.getElem?_eq_getElem hxl] at this
    exact ⟨_, this⟩
  refine ⟨a, h4, ?_⟩
  rw [List.drop_zero, List.take_of_length_le (by rw [h1, hn, hl]; exact Nat.le_refl _)] at h5
  exact h5

/-- An argument that reads as data. -/
theorem Dec.arg {P : Program} {t : TypeId} {α : Type} {ok : α → Prop} {f : α → List AV} (h : Dec P t ok f) (ag : Bool) (hf : ∀ a, if ag then True else (f a).length = 1) {H : Type} {enc : TypeId × Value → H} {w : World} {base : Nat} {held : Bool} {v : Value} {d : DataW H} {ps : List MemPlace}
    (ht : DataW.Trod enc P w base (fun _ => true) held t v d ps) (hv : if ag then ∃ cs, v = .agg cs else v.cells = #[v]) : ∃ a, ok a ∧ Rd w (Now w) (elOf ag (f a)) v := by
  obtain ⟨fuel, hx⟩ := ht
  obtain ⟨a, h1, h2, h3⟩ := h H enc w base held fuel _ _ hx
  refine ⟨a, h1, ?_⟩
  cases ag with
  | true =>
    obtain ⟨cs, rfl⟩ := hv
    have e : (Value.agg cs).cells = cs := rfl
    rw [e] at h2 h3
    exact .agg _ _ (by simpa using h2) (fun i hi => (h3 i hi).1) (fun i hi => (h3 i hi).2)
  | false =>
    have hl : (f a).length = 1 := by simpa using hf a
    have hv : v.cells = #[v] := hv
    rw [hv] at h3
    have := (h3 0 (by omega)).2
    have e1 : elOf false (f a) = (f a)[0]'(by omega) := by simp [elOf, List.getD_eq_getElem?_getD, List.getElem?_eq_getElem (show 0 < (f a).length by omega)]
    rw [e1]; exact this

/-- A law's contract, as the row's step wants it. -/
theorem Fn.law {P : Program} {f : FuncId} {args : List AV} {b : Bool} (h : Fn P f args true (· = .val (.bool b))) (W : World) (hkon : Kon W (Now W)) (vs : Array Value) (hs : vs.size = args.length)
    (hr : ∀ i (h : i < args.length), Rd W (Now W) args[i] (vs.toList.getD i Go.undef)) : Calls P f vs W fun e W' => e = .returned (.bool b) ∧ Below W.heap.size W W' := by
  refine (h.2 W (Now W) vs (fun _ hb => hb) hkon hs hr).mono fun e W' ⟨r, v, he, hx, hg, hres⟩ => ?_
  subst hx
  obtain ⟨fs, hown, _⟩ := hres
  have hv : v = .bool b := by
    cases hown with
    | rd _ _ h => cases h with | val _ _ => rfl
  subst hv
  exact ⟨he, hg.below⟩
end Go.Vc


/-
  Calls of functions that write blocks of their caller's which name each other (boxes that hold labels): contracts that keep the labels, for recursion by closures.
-/
set_option linter.unusedVariables false
set_option linter.unusedSimpArgs false
set_option linter.unnecessarySimpa false
namespace Go.Vc

def keys (m : Mem) : List Nat := m.map (·.1)
theorem keys_nil : keys [] = [] := rfl
theorem keys_cons (l : Nat) (b : Blk) (r : Mem) : keys ((l, b) :: r) = l :: keys r := rfl
theorem in_keys {m : Mem} {l : Nat} (h : lookB m l ≠ none) : l ∈ keys m := by
  induction m with
  | nil => exact absurd rfl h
  | cons p r ih =>
    obtain ⟨k, v⟩ := p
    rw [lookB_cons] at h
    by_cases e : k = l
    · simp [keys, e]
    · rw [if_neg e] at h
      exact List.mem_cons_of_mem _ (ih h)
theorem of_keys {m : Mem} {l : Nat} (h : l ∈ keys m) : lookB m l ≠ none := by
  induction m with
  | nil => cases h
  | cons p r ih =>
    obtain ⟨k, v⟩ := p
    rw [lookB_cons]
    by_cases e : k = l
    · rw [if_pos e]; exact fun h => by cases h
    · rw [if_neg e]
      refine ih ?_
      rcases List.mem_cons.1 h with h | h
      · exact absurd h.symm e
      · exact h
/-- the labels that a memory's boxes hold are among these -/
def okM (L : List Nat) (m : Mem) : Prop := (∀ l, lookB m l ≠ none → l ∈ L) ∧ ∀ l v xs, lookB m l = some (.box v xs) → ∀ p, p ∈ labsL xs → p.1 ∈ L
def keepsM (L : List Nat) (m m' : Mem) : Prop := (∀ l, l ∈ L → lookB m' l = lookB m l) ∧ okM L m'

def resφ (L : List Nat) (φ : Nat → LS) (l : Nat) : LS := if l ∈ L then φ l else .dead
def resF (L : List Nat) (fp : Nat → List Nat) (l : Nat) : List Nat := if l ∈ L then fp l else []
theorem resφ_in {L : List Nat} {φ : Nat → LS} {l : Nat} (h : l ∈ L) : resφ L φ l = φ l := if_pos h
theorem resF_in {L : List Nat} {fp : Nat → List Nat} {l : Nat} (h : l ∈ L) : resF L fp l = fp l := if_pos h
theorem mem_resF {L : List Nat} {fp : Nat → List Nat} {l b : Nat} (h : b ∈ resF L fp l) : l ∈ L ∧ b ∈ fp l := by
  unfold resF at h
  split at h
  · exact ⟨‹_›, h⟩
  · cases h

section
variable {P : Program} {B : Base} {N : Nat} {φ : Nat → LS} {fp : Nat → List Nat} {S : Nat → Prop} {ts : Env} {m : Mem} {a : Act} {w : World}

theorem RS.sub (h : RS B N φ fp S ts m a w) {L : List Nat} {m' : Mem} (hk : keepsM L m m') (hb : ∀ l, lookB B.m0 l ≠ none → l ∈ L) :
    RS B 0 (resφ L φ) (resF L fp) S [] m' { tmps := #[], defers := [] } w := by
  obtain ⟨k1, k2, k3⟩ := hk
  refine { tm := fun t => by rw [look_nil]; exact .rd _ _ (.undef _), tl := fun t l ver hl => (by rw [look_nil] at hl; cases hl), mNone := fun l hl => ?_, mSome := fun l b hb => ?_, bl := fun l v xs hb l' ver hl => ?_,
           nod := fun l => ?_, dis := fun l l' b h1 h2 => h.dis l l' b (mem_resF h1).2 (mem_resF h2).2, notS := fun l b hb => h.notS l b (mem_resF hb).2, fpB := fun l b hb => h.fpB l b (mem_resF hb).2,
           sB := h.sB, base := h.base, out := h.out, szs := h.szs, kn := fun l ver hl hk => ?_, fix := fun l ver hl hk => ?_, size := h.size, defers := rfl, tsz := rfl, kon := h.kon }
  · by_cases hm : l ∈ L
    · rw [resφ_in hm, resF_in hm]
      rw [k1 l hm] at hl
      exact h.mNone l hl
    · unfold resφ resF
      rw [if_neg hm, if_neg hm]; exact ⟨rfl, rfl⟩
  · have hm := k2 l (by rw [hb]; exact fun e => by cases e)
    have hb2 := hb
    rw [k1 l hm] at hb2
    rw [resF_in hm]
    refine (h.mSome l b hb2).mono (fun _ _ => rfl) (fun _ h => h) (fun l b sh ver cs e _ hb => ⟨cs, e, hb, rfl⟩) (fun _ _ => rfl) (resφ_in hm) fun v xs e l' ver hl' => ?_
    subst e
    rw [resφ_in (k3 l v xs hb _ hl')]
    exact LS.le_refl _ _
  · have hm := k2 l (by rw [hb]; exact fun e => by cases e)
    have hb2 := hb
    rw [k1 l hm] at hb2
    obtain ⟨k, h1, h2⟩ := h.bl l v xs hb2 l' ver hl
    exact ⟨k, (k1 l' (k3 l v xs hb _ hl)).trans h1, h2⟩
  · unfold resF; split
    · exact h.nod l
    · exact List.nodup_nil
  · obtain ⟨k, h1, h2⟩ := h.kn l ver hl hk
    obtain ⟨k0, h3, _⟩ := hk
    exact ⟨k, (k1 l (hb l (by rw [h3]; exact fun e => by cases e))).trans h1, h2⟩
  · obtain ⟨k0, h3, h4⟩ := hk
    rw [resφ_in (hb l (by rw [h3]; exact fun e => by cases e))]
    exact h.fix l ver hl ⟨k0, h3, h4⟩
end

def baseH (w : World) (φ : Nat → LS) (fp : Nat → List Nat) (S : Nat → Prop) (m0 : Mem) : Base := ⟨w, fun l b => b ∈ fp l, S, φ, m0⟩

/-- A contract over the memory m0: called there with xs, it returns a value without labels, and leaves a memory with the same labels. -/
def FnH (P : Program) (f : FuncId) (m0 : Mem) (xs : List AV) (post : AV → Mem → Prop) : Prop :=
  Enters P f ∧ ∀ (w : World) (φ : Nat → LS) (fp : Nat → List Nat) (S : Nat → Prop) (vs : Array Value), vs.size = xs.length →
    RS (baseH w φ fp S m0) vs.size φ fp S (argsE 0 xs) m0 { tmps := vs, defers := [] } w →
    Calls P f vs w fun e w' => ∃ x v m' φ' fp' S', e = .returned v ∧ post x m' ∧ RV w' S' φ' x v ∧ labs x = [] ∧ okM (keys m0) m' ∧ RS (baseH w φ fp S m0) 0 φ' fp' S' [] m' { tmps := #[], defers := [] } w'

theorem FnH.mono {P : Program} {f : FuncId} {m0 : Mem} {xs : List AV} {post post' : AV → Mem → Prop} (h : FnH P f m0 xs post) (hp : ∀ r m', post r m' → post' r m') : FnH P f m0 xs post' :=
  ⟨h.1, fun w φ fp S vs h1 h2 => (h.2 w φ fp S vs h1 h2).mono fun _ _ ⟨x, v, m', φ', fp', S', g1, g2, g3⟩ => ⟨x, v, m', φ', fp', S', g1, hp _ _ g2, g3⟩⟩

def finH (P : Program) (rs : List ResultVar) (L : List Nat) (post : AV → Mem → Prop) : Post
  | .normal => fun ts m => sResults P (fun ys => labsL ys = [] ∧ ∃ m', post (mkRes ys) m' ∧ keepsM L m m') rs ts m []
  | .ret => fun ts m => sResults P (fun ys => labsL ys = [] ∧ ∃ m', post (mkRes ys) m' ∧ keepsM L m m') rs ts m []
  | _ => fun _ _ => False
theorem finH_normal (P : Program) (rs : List ResultVar) (L : List Nat) (post : AV → Mem → Prop) (ts : Env) (m : Mem) :
    finH P rs L post .normal ts m = sResults P (fun ys => labsL ys = [] ∧ ∃ m', post (mkRes ys) m' ∧ keepsM L m m') rs ts m [] := rfl
theorem finH_ret (P : Program) (rs : List ResultVar) (L : List Nat) (post : AV → Mem → Prop) (ts : Env) (m : Mem) :
    finH P rs L post .ret ts m = sResults P (fun ys => labsL ys = [] ∧ ∃ m', post (mkRes ys) m' ∧ keepsM L m m') rs ts m [] := rfl

theorem labs_mkRes {ys : List AV} (h : labsL ys = []) : labs (mkRes ys) = [] := by
  match ys, h with
  | [], _ => simp [mkRes, labs, labsL]
  | [y], h => simpa [mkRes, labsL] using h
  | y :: y' :: r, h => rw [mkRes_two]; simpa [labs] using h

theorem FnH.of_vc' {P : Program} {f : FuncId} {fn : Func} {c : Code} {m0 : Mem} {xs : List AV} {post : AV → Mem → Prop} (hf : P.funcs[f]? = some fn) (hn : (fn.name == "runtime.NumGoroutine") = false) (hb : fn.body = some c)
    (hok : codeOk fn.ntmps c = true) (ha : xs.length ≤ fn.ntmps) (hv : vc P fn.ntmps c (argsE 0 xs) m0 (finH P fn.results.toList (keys m0) post)) : FnH P f m0 xs post := by
  refine ⟨⟨fn, c, hf, hn, hb⟩, fun w φ fp S vs hsz hR0 => ?_⟩
  refine calls_of_wp hf hb ?_
  have hRS : RS (baseH w φ fp S m0) fn.ntmps φ fp S (argsE 0 xs) m0 { tmps := vs ++ Array.replicate (fn.ntmps - vs.size) undef, defers := [] } w := by
    refine { hR0 with tm := fun t => ?_, defers := rfl, tsz := by simp; omega }
    by_cases h : t < xs.length
    · have h1 := hR0.tm t
      have : vs.getD t Go.undef = (vs ++ Array.replicate (fn.ntmps - vs.size) undef).getD t Go.undef := by
        have h2 : t < vs.size := by omega
        simp only [Array.getD_eq_getD_getElem?]
        rw [Array.getElem?_append_left h2]
      rw [← this]; exact h1
    · rw [look_argsE]
      have : (if 0 ≤ t then (xs[t - 0]?).getD AV.undef else .undef) = .undef := by simp [List.getElem?_eq_none (show xs.length ≤ t by omega)]
      rw [this]; exact .rd _ _ (.undef _)
  have hend : ∀ a' w', Done (baseH w φ fp S m0) fn.ntmps (fun ts m => sResults P (fun ys => labsL ys = [] ∧ ∃ m', post (mkRes ys) m' ∧ keepsM (keys m0) m m') fn.results.toList ts m []) a' w' →
      a'.defers = [] ∧ ∃ v, (results fn a'.tmps).run P w' = .ok v w' ∧ ∃ x v' m' φ' fp' S', Ending.returned v = .returned v' ∧ post x m' ∧ RV w' S' φ' x v' ∧ labs x = [] ∧ okM (keys m0) m' ∧ RS (baseH w φ fp S m0) 0 φ' fp' S' [] m' { tmps := #[], defers := [] } w' := by
    rintro a' w' ⟨φ', fp', S', ts', m', h', hk⟩
    refine ⟨h'.defers, ?_⟩
    obtain ⟨ys, us, ⟨hlab, m2, hpost, hkeep⟩, h2, h3, h4⟩ := results_out' h' fn.results.toList [] [] ⟨rfl, fun i hi => absurd hi (Nat.not_lt_zero _)⟩ (fun i hi => absurd hi (Nat.not_lt_zero _)) hk
    obtain ⟨h3a, h3b⟩ := h3
    simp only [List.nil_append] at h3a h3b
    refine ⟨if h : us.toArray.size = 1 then us.toArray[0] else .tuple us.toArray, ?_, mkRes ys, _, m2, resφ (keys m0) φ', resF (keys m0) fp', S', rfl, hpost, ?_, labs_mkRes hlab, hkeep.2, h'.sub hkeep fun l hl => in_keys hl⟩
    · have hm : results fn a'.tmps = (do let vs ← fn.results.mapM (resOne a'.tmps); pure (if h : vs.size = 1 then vs[0] else .tuple vs)) := by
        unfold results
        congr 1
      rw [hm, Sem.run_bind, Array.mapM_eq_mapM_toList]
      have : (List.toArray <$> fn.results.toList.mapM (resOne a'.tmps) : Sem (Array Value)).run P w' = .ok us.toArray w' := by
        rw [map_eq_pure_bind, Sem.run_bind, h2]; rfl
      rw [this]; rfl
    · refine (mkRes_rv h3a h3b).mono (fun _ _ => rfl) (fun _ h => h) (fun l b sh ver cs e _ hb => ⟨cs, e, hb, rfl⟩) fun l ver hl => ?_
      rw [labs_mkRes hlab] at hl; cases hl
  refine wp_mono (vc_sound c _ _ _ hok hv _ _ _ _ _ _ hRS) ?_
  intro e a' w' hq
  cases e with
  | normal => exact hend a' w' hq
  | ret => exact hend a' w' hq
  | _ => obtain ⟨_, _, _, _, _, _, hh⟩ := hq; exact hh.elim

theorem FnH.of_vc {P : Program} {f : FuncId} {fn : Func} {c : Code} {m0 : Mem} {xs : List AV} {post : AV → Mem → Prop} (N : Nat) (rs : List ResultVar) (hf : P.funcs[f]? = some fn) (hN : fn.ntmps = N) (hr : fn.results.toList = rs)
    (hn : (fn.name == "runtime.NumGoroutine") = false) (hb : fn.body = some c) (hok : codeOk N c = true) (ha : xs.length ≤ N) (hv : vc P N c (argsE 0 xs) m0 (finH P rs (keys m0) post)) : FnH P f m0 xs post := by
  subst hN; subst hr; exact FnH.of_vc' hf hn hb hok ha hv

theorem lookB_appL {m' m : Mem} {l : Nat} {b : Blk} (h : lookB m' l = some b) : lookB (m' ++ m) l = some b := by
  induction m' with
  | nil => cases h
  | cons p r ih =>
    obtain ⟨k, v⟩ := p
    rw [List.cons_append, lookB_cons]
    rw [lookB_cons] at h
    by_cases e : k = l
    · rw [if_pos e] at h ⊢; exact h
    · rw [if_neg e] at h ⊢; exact ih h
theorem lookB_appR {m' m : Mem} {l : Nat} (h : lookB m' l = none) : lookB (m' ++ m) l = lookB m l := by
  induction m' with
  | nil => rfl
  | cons p r ih =>
    obtain ⟨k, v⟩ := p
    rw [List.cons_append, lookB_cons]
    rw [lookB_cons] at h
    by_cases e : k = l
    · rw [if_pos e] at h; cases h
    · rw [if_neg e] at h ⊢; exact ih h

/-- A call, with what the caller's upper blocks may share afterwards. -/
def sCallF (P : Program) (f : FuncId) (xs : List AV) (m : Mem) (k : AV → Mem → Prop) : Prop :=
  Enters P f ∧ ∀ (B : Base) (N : Nat) (φ : Nat → LS) (fp : Nat → List Nat) (S : Nat → Prop) (ts : Env) (a : Act) (w : World) (vs : Array Value), RS B N φ fp S ts m a w → vs.size = xs.length →
    (∀ i (h : i < xs.length), RV w S φ xs[i] (vs.toList.getD i Go.undef)) → (∀ i (h : i < xs.length) l ver, (l, ver) ∈ labs xs[i] → known m l ver) →
    Calls P f vs w fun e w' => ∃ v, e = .returned v ∧ ∃ φ' fp' S' m' x, RS B N φ' fp' S' ts m' a w' ∧ RV w' S' φ' x v ∧ (∀ l ver, (l, ver) ∈ labs x → known m' l ver) ∧ k x m' ∧
        ∀ l, lookB m l ≠ none → ioL ≤ l → ∀ b, b ∈ fp' l → w.heap.size ≤ b ∨ b ∈ fp l

theorem sCallF.io {P : Program} {f : FuncId} {xs : List AV} {m : Mem} {k : AV → Mem → Prop} (h : sCallF P f xs m k) : sCallIo P f xs m k := by
  intro B N φ fp S ts a w vs hRS hsz hx hxl
  refine ⟨h.1, (h.2 B N φ fp S ts a w vs hRS hsz hx hxl).mono ?_⟩
  rintro e w' ⟨v, rfl, φ', fp', S', m', x, g1, g2, g3, g4, _⟩
  exact ⟨v, rfl, φ', fp', S', ts, m', x, g1, g2, g3, rfl, g4⟩

theorem sCallF.ren {P : Program} {f : FuncId} : ∀ (ρ : List (Nat × Nat)) {xs : List AV} {m : Mem} {k : AV → Mem → Prop}, renOk ρ m → sCallF P f (rnsL ρ xs) (rnsM ρ m) (fun x m' => k (rnsAb ρ x) (rnsMb ρ m')) → sCallF P f xs m k
  | [], xs, m, k, _, h => by
    simp only [rnsM, rnsL] at h
    rw [show xs.map (rnsA []) = xs from by rw [show rnsA [] = id from rfl, List.map_id]] at h
    exact h
  | (l, l') :: r, xs, m, k, ⟨⟨⟨hl, hio⟩, hh, hl'⟩, hok2⟩, hv => by
    have hlen : (rnL l l' xs).length = xs.length := rnL_length l l' xs
    have e9 : rnsL r (rnL l l' xs) = rnsL ((l, l') :: r) xs := by
      refine List.ext_getElem (by simp [rnsL, hlen]) fun i h1 h2 => ?_
      simp only [rnsL, List.getElem_map]
      rw [rnL_get l l' xs i (by simpa [rnsL] using h2)]; rfl
    have hrec := sCallF.ren r (k := fun x m' => k (rnA l l' x) (rnM l l' m')) (xs := rnL l l' xs) hok2 (by rw [e9]; exact hv)
    refine ⟨hrec.1, fun B N φ fp S ts a w vs h hsz hx hxl => ?_⟩
    have hm0 : lookB B.m0 l' = none := by
      cases he : lookB B.m0 l' with
      | none => rfl
      | some k0 =>
        obtain ⟨k2, h7, _⟩ := h.kn l' k0.ver hio ⟨k0, he, Nat.le_refl _⟩
        rw [show lookB m l' = none from hl'] at h7; cases h7
    have hfp0 : fp l' = [] := (h.mNone l' hl').2
    have h1 := h.ren3 hl hm0 (fun b hb => by rw [hfp0] at hb; cases hb)
    have hne : l ≠ l' := by unfold ioL at *; omega
    have e1 : rl l l' l = l' := by simp [rl]
    have e2 : rl l l' l' = l := by unfold rl; rw [if_neg (Ne.symm hne), if_pos rfl]
    have hlk : ∀ x, lookB (rnM l l' m) x ≠ none ↔ lookB m (rl l l' x) ≠ none := fun x => by rw [lookB_rnM]; cases lookB m (rl l l' x) <;> simp
    have := hrec.2 B N _ _ S _ a w vs h1 (by rw [hlen]; exact hsz) (fun i hi => by
      have h' : i < xs.length := by rw [hlen] at hi; exact hi
      rw [rnL_get l l' xs i h' hi]; exact (hx i h').ren l l') (fun i hi l0 ver hl0 => by
      have h' : i < xs.length := by rw [hlen] at hi; exact hi
      rw [rnL_get l l' xs i h' hi, labs_rnA] at hl0
      obtain ⟨⟨k0, v0⟩, q1, q2⟩ := List.mem_map.1 hl0
      simp only [Prod.mk.injEq] at q2
      obtain ⟨rfl, rfl⟩ := q2
      obtain ⟨b0, q3, q4⟩ := hxl i h' k0 v0 q1
      exact ⟨rnB l l' b0, by rw [lookB_rnM, rl_rl, q3]; rfl, by rw [rnB_ver]; exact q4⟩)
    refine this.mono ?_
    rintro e w' ⟨v, rfl, φ', fp', S', m', x, g1, g2, g3, g4, g5⟩
    have hb5 : ∀ b, b ∈ fp' l' → B.w0.heap.size ≤ b := by
      intro b hb'
      rcases g5 l' ((hlk l').2 (by rw [e2]; exact hh)) hio b hb' with h5 | h5
      · exact Nat.le_trans h.size h5
      · have h5 : b ∈ fp (rl l l' l') := h5
        rw [e2] at h5
        rcases (h.fpB l b h5).2 with h6 | ⟨_, _, h6, _⟩
        · exact h6
        · exact absurd hl (Nat.not_lt.2 h6)
    have g6 := g1.ren3 hl hm0 hb5
    refine ⟨v, rfl, fun k => φ' (rl l l' k), fun k => fp' (rl l l' k), S', rnM l l' m', rnA l l' x, ?_, g2.ren l l', fun l0 ver hl0 => ?_, g4, fun l0 h0 h2 b hb' => ?_⟩
    · have ets : ∀ t, look (rnE l l' (rnE l l' ts)) t = look ts t := fun t => by rw [look_rnE, look_rnE, rnA_rnA]
      exact { g6 with tm := fun t => by rw [← ets]; exact g6.tm t, tl := fun t l ver hl => g6.tl t l ver (by rw [ets]; exact hl) }
    · rw [labs_rnA] at hl0
      obtain ⟨⟨k0, v0⟩, q1, q2⟩ := List.mem_map.1 hl0
      simp only [Prod.mk.injEq] at q2
      obtain ⟨rfl, rfl⟩ := q2
      obtain ⟨b0, q3, q4⟩ := g3 k0 v0 q1
      exact ⟨rnB l l' b0, by rw [lookB_rnM, rl_rl, q3]; rfl, by rw [rnB_ver]; exact q4⟩
    · have n1 : l0 ≠ l := fun e => by subst e; exact absurd hl (Nat.not_lt.2 h2)
      have n2 : l0 ≠ l' := fun e => by subst e; exact h0 hl'
      have e3 : rl l l' l0 = l0 := by unfold rl; rw [if_neg n1, if_neg n2]
      have hb' : b ∈ fp' (rl l l' l0) := hb'
      rw [e3] at hb'
      have := g5 l0 ((hlk l0).2 (by rw [e3]; exact h0)) h2 b hb'
      rcases this with h5 | h5
      · exact .inl h5
      · have h5 : b ∈ fp (rl l l' l0) := h5
        rw [e3] at h5; exact .inr h5

theorem FnH.call {P : Program} {f : FuncId} {m0 : Mem} {xs : List AV} {post : AV → Mem → Prop} {m : Mem} {k : AV → Mem → Prop} (hH : FnH P f m0 xs post) (hhi : ∀ l, l ∈ keys m0 → ioL ≤ l) (hm : ∀ l, l ∈ keys m0 → lookB m l = lookB m0 l)
    (hok : okM (keys m0) m0) (hxs : ∀ p, p ∈ labsL xs → p.1 ∈ keys m0) (hk : ∀ r m', post r m' → k r (m' ++ m)) : sCallF P f xs m k := by
  refine ⟨hH.1, fun B N φ fp S ts a w vs h hsz hx hxl => ?_⟩
  have hR0 : RS (baseH w (resφ (keys m0) φ) (resF (keys m0) fp) S m0) vs.size (resφ (keys m0) φ) (resF (keys m0) fp) S (argsE 0 xs) m0 { tmps := vs, defers := [] } w := by
    refine { tm := fun t => ?_, tl := fun t l ver hl => ?_, mNone := fun l hl => ?_, mSome := fun l b hb => ?_, bl := fun l v xs hb l' ver hl => ?_, nod := fun l => ?_, dis := fun l l' b h1 h2 => h.dis l l' b (mem_resF h1).2 (mem_resF h2).2,
             notS := fun l b hb => h.notS l b (mem_resF hb).2, fpB := fun l b hb => ⟨(h.fpB l b (mem_resF hb).2).1, .inr ⟨l, hb, hhi l (mem_resF hb).1, .inl rfl⟩⟩, sB := fun b hb => ⟨(h.sB b hb).1, .inr hb⟩, base := fun b _ _ => rfl, out := SameOut.refl _, szs := Szs.refl _,
             kn := fun _ _ _ hk => hk, fix := fun _ _ _ _ => LS.le_refl _ _, size := Nat.le_refl _, defers := rfl, tsz := rfl, kon := h.kon }
    · rw [look_argsE]
      by_cases ht : t < xs.length
      · have e : (if 0 ≤ t then (xs[t - 0]?).getD AV.undef else .undef) = xs[t] := by simp [ht]
        rw [e]
        have e2 : vs.toList.getD t Go.undef = vs.getD t Go.undef := by simp [List.getD_eq_getElem?_getD, Array.getD_eq_getD_getElem?]
        rw [← e2]
        refine (hx t ht).mono (fun _ _ => rfl) (fun _ h => h) (fun l b sh ver cs e _ hb => ⟨cs, e, hb, rfl⟩) fun l ver hl => ?_
        rw [resφ_in (hxs _ (mem_labsL ht hl))]
        exact LS.le_refl _ _
      · have e : (if 0 ≤ t then (xs[t - 0]?).getD AV.undef else .undef) = .undef := by simp [List.getElem?_eq_none (show xs.length ≤ t by omega)]
        rw [e]; exact .rd _ _ (.undef _)
    · rw [look_argsE] at hl
      by_cases ht : t < xs.length
      · have e : (if 0 ≤ t then (xs[t - 0]?).getD AV.undef else .undef) = xs[t] := by simp [ht]
        rw [e] at hl
        obtain ⟨b, h1, h2⟩ := hxl t ht l ver hl
        exact ⟨b, (hm l (hxs _ (mem_labsL ht hl))).symm.trans h1, h2⟩
      · have e : (if 0 ≤ t then (xs[t - 0]?).getD AV.undef else .undef) = .undef := by simp [List.getElem?_eq_none (show xs.length ≤ t by omega)]
        rw [e] at hl; cases hl
    · have hn : l ∉ keys m0 := fun hh => of_keys hh hl
      unfold resφ resF
      rw [if_neg hn, if_neg hn]; exact ⟨rfl, rfl⟩
    · have hl : l ∈ keys m0 := in_keys (by rw [hb]; exact fun e => by cases e)
      rw [resF_in hl]
      refine (h.mSome l b ((hm l hl).trans hb)).mono (fun _ _ => rfl) (fun _ h => h) (fun l b sh ver cs e _ hb => ⟨cs, e, hb, rfl⟩) (fun _ _ => rfl) (resφ_in hl) fun v xs e l' ver hl' => ?_
      subst e
      rw [resφ_in (hok.2 l v xs hb _ hl')]
      exact LS.le_refl _ _
    · have hl0 : l ∈ keys m0 := in_keys (by rw [hb]; exact fun e => by cases e)
      obtain ⟨b, h1, h2⟩ := h.bl l v xs ((hm l hl0).trans hb) l' ver hl
      exact ⟨b, (hm l' (hok.2 l v xs hb _ hl)).symm.trans h1, h2⟩
    · unfold resF; split
      · exact h.nod l
      · exact List.nodup_nil
  refine (hH.2 w _ _ S vs hsz hR0).mono ?_
  rintro e w' ⟨x, v, m', φ', fp', S', rfl, hpost, hrv, hlab, hokm, hR⟩
  have hsame : ∀ b : Nat, b < w.heap.size → (∀ l, l ∈ keys m0 → b ∉ fp l) → w'.heap[b]? = w.heap[b]? := fun b hb hn => hR.base b hb fun l hb' => hn l (mem_resF hb').1 (mem_resF hb').2
  have hSsame : ∀ b, S b → w'.heap[b]? = w.heap[b]? := fun b hb => hsame b (h.sB b hb).1 fun l _ hb' => h.notS _ b hb' hb
  have hz : Sized φ w w' := fun l b sh ver cs e _ hb => hR.szs b cs e hb
  have hST : ∀ b, S' b → S b ∨ (S' b ∧ w.heap.size ≤ b) := fun b hb => by
    rcases (hR.sB b hb).2 with hh | hh
    · exact .inr ⟨hb, hh⟩
    · exact .inl hh
  have kno : ∀ l ver, l ∈ keys m0 → known m l ver → known m0 l ver := fun l ver hl ⟨b, h1, h2⟩ => ⟨b, (hm l hl).symm.trans h1, h2⟩
  have inm' : ∀ l, l ∈ keys m0 → ∃ b, lookB m' l = some b := by
    intro l hl
    cases hb : lookB m0 l with
    | none => exact absurd hb (of_keys hl)
    | some b =>
      obtain ⟨b', h1, _⟩ := hR.kn l b.ver (hhi l hl) ⟨b, hb, Nat.le_refl _⟩
      exact ⟨b', h1⟩
  have lkL : ∀ l, l ∈ keys m0 → lookB (m' ++ m) l = lookB m' l := fun l hl => by
    obtain ⟨b, hb⟩ := inm' l hl
    rw [hb]; exact lookB_appL hb
  have lkR : ∀ l, l ∉ keys m0 → lookB (m' ++ m) l = lookB m l := fun l hl => lookB_appR (by
    cases hb : lookB m' l with
    | none => rfl
    | some b => exact absurd (hokm.1 l (by rw [hb]; exact fun e => by cases e)) hl)
  have hkn : ∀ l ver, known m l ver → known (m' ++ m) l ver := by
    intro l ver hk
    by_cases hl : l ∈ keys m0
    · obtain ⟨b, h1, h2⟩ := hR.kn l ver (hhi l hl) (kno l ver hl hk)
      exact ⟨b, (lkL l hl).trans h1, h2⟩
    · obtain ⟨b, h1, h2⟩ := hk
      exact ⟨b, (lkR l hl).trans h1, h2⟩
  let φ2 : Nat → LS := fun l => if l ∈ keys m0 then φ' l else φ l
  let fp2 : Nat → List Nat := fun l => if l ∈ keys m0 then fp' l else fp l
  have φi : ∀ l, l ∈ keys m0 → φ2 l = φ' l := fun l hl => if_pos hl
  have φo : ∀ l, l ∉ keys m0 → φ2 l = φ l := fun l hl => if_neg hl
  have fi : ∀ l, l ∈ keys m0 → fp2 l = fp' l := fun l hl => if_pos hl
  have fo : ∀ l, l ∉ keys m0 → fp2 l = fp l := fun l hl => if_neg hl
  have hle : ∀ l ver, known m l ver → LS.le (φ2 l) (φ l) ver := by
    intro l ver hk
    by_cases hl : l ∈ keys m0
    · have := hR.fix l ver (hhi l hl) (kno l ver hl hk)
      have this : LS.le (φ' l) (resφ (keys m0) φ l) ver := this
      rw [resφ_in hl] at this
      rw [φi l hl]; exact this
    · rw [φo l hl]; exact LS.le_refl _ _
  have fpnew : ∀ l, l ∈ keys m0 → ∀ b, b ∈ fp' l → b < w'.heap.size ∧ (w.heap.size ≤ b ∨ b ∈ fp l) := by
    intro l hl b hb
    have := hR.fpB l b hb
    refine ⟨this.1, this.2.imp id ?_⟩
    rintro ⟨l', hb2, _, hl3⟩
    have hl3 : l' = l := hl3.resolve_right fun e => of_keys hl e
    subst hl3
    have hb2 : b ∈ resF (keys m0) fp l' := hb2
    exact (mem_resF hb2).2
  have hfpd : ∀ l, lookB m' l = none → fp' l = [] := fun l hl => (hR.mNone l hl).2
  have mixed : ∀ l, l ∈ keys m0 → ∀ l' b, l' ∉ keys m0 → b ∈ fp' l → b ∈ fp l' → False := by
    intro l hl l' b hl' b1 b2
    rcases (fpnew l hl b b1).2 with hh | hh
    · have := (h.fpB l' b b2).1; omega
    · exact hl' (by rw [h.dis _ _ b b2 hh]; exact hl)
  refine ⟨v, rfl, φ2, fp2, fun b => S b ∨ (S' b ∧ w.heap.size ≤ b), m' ++ m, x, ?_, ?_, fun l ver hl => (by rw [hlab] at hl; cases hl), hk x m' hpost, fun l _ _ b hb => (by
    by_cases hl : l ∈ keys m0
    · rw [fi l hl] at hb; exact (fpnew l hl b hb).2
    · rw [fo l hl] at hb; exact .inr hb)⟩
  · refine { tm := fun t => (h.tm t).mono hSsame (fun b hb => .inl hb) hz fun l ver hl => hle l ver (h.tl t l ver hl), tl := fun t l ver hl => hkn l ver (h.tl t l ver hl), mNone := fun l hl => ?_, mSome := fun l b hb => ?_,
             bl := fun l v xs hb l' ver hl => ?_, nod := fun l => ?_, dis := fun l l' b h1 h2 => ?_, notS := fun l b hb => ?_, fpB := fun l b hb => ?_, sB := fun b hb => ?_, base := fun b hb hio => ?_,
             out := h.out.trans hR.out, szs := h.szs.trans hR.szs, kn := fun l ver hl hk => hkn l ver (h.kn l ver hl hk), fix := fun l ver hl hk => LS.le_trans (hle l ver (h.kn l ver hl hk)) (h.fix l ver hl hk), size := Nat.le_trans h.size hR.size, defers := h.defers, tsz := h.tsz,
             kon := h.kon.mono hSsame fun b hb => .inl hb }
    · by_cases hm1 : l ∈ keys m0
      · obtain ⟨b, hb⟩ := inm' l hm1
        rw [lkL l hm1, hb] at hl; cases hl
      · rw [lkR l hm1] at hl
        rw [φo l hm1, fo l hm1]; exact h.mNone l hl
    · by_cases hm1 : l ∈ keys m0
      · rw [lkL l hm1] at hb
        rw [fi l hm1]
        refine (hR.mSome l b hb).mono (fun _ _ => rfl) hST (fun l b sh ver cs e _ hb => ⟨cs, e, hb, rfl⟩) (fun _ _ => rfl) (φi l hm1) fun v xs e l' ver hl' => ?_
        subst e
        rw [φi l' (hokm.2 l v xs hb _ hl')]
        exact LS.le_refl _ _
      · rw [lkR l hm1] at hb
        rw [fo l hm1]
        refine (h.mSome l b hb).mono hSsame (fun b hb => .inl hb) hz (fun c hc => hsame c (h.fpB l c hc).1 fun l' hl' hc' => hm1 (by rw [h.dis _ _ c hc hc']; exact hl')) (φo l hm1) fun v xs e l' ver hl' => ?_
        subst e
        exact hle l' ver (h.bl l v xs hb l' ver hl')
    · by_cases hm1 : l ∈ keys m0
      · rw [lkL l hm1] at hb
        obtain ⟨b, h1, h2⟩ := hR.bl l v xs hb l' ver hl
        exact ⟨b, lookB_appL h1, h2⟩
      · rw [lkR l hm1] at hb
        exact hkn l' ver (h.bl l v xs hb l' ver hl)
    · by_cases hm1 : l ∈ keys m0
      · rw [fi l hm1]; exact hR.nod l
      · rw [fo l hm1]; exact h.nod l
    · by_cases m1 : l ∈ keys m0
      · rw [fi l m1] at h1
        by_cases m2 : l' ∈ keys m0
        · rw [fi l' m2] at h2
          exact hR.dis _ _ b h1 h2
        · rw [fo l' m2] at h2
          exact (mixed l m1 l' b m2 h1 h2).elim
      · rw [fo l m1] at h1
        by_cases m2 : l' ∈ keys m0
        · rw [fi l' m2] at h2
          exact (mixed l' m2 l b m1 h2 h1).elim
        · rw [fo l' m2] at h2
          exact h.dis l l' b h1 h2
    · by_cases hm1 : l ∈ keys m0
      · rw [fi l hm1] at hb
        rintro (hs | hs)
        · rcases (fpnew l hm1 b hb).2 with hh | hh
          · have := (h.sB b hs).1; omega
          · exact h.notS _ b hh hs
        · exact hR.notS _ b hb hs.1
      · rw [fo l hm1] at hb
        rintro (hs | hs)
        · exact h.notS l b hb hs
        · have := (h.fpB l b hb).1; omega
    · by_cases hm1 : l ∈ keys m0
      · rw [fi l hm1] at hb
        have := fpnew l hm1 b hb
        refine ⟨this.1, ?_⟩
        rcases this.2 with hh | hh
        · exact .inl (Nat.le_trans h.size hh)
        · exact (h.fpB _ b hh).2
      · rw [fo l hm1] at hb
        have := h.fpB l b hb
        exact ⟨Nat.lt_of_lt_of_le this.1 hR.size, this.2⟩
    · rcases hb with hs | hs
      · have := h.sB b hs
        exact ⟨Nat.lt_of_lt_of_le this.1 hR.size, this.2⟩
      · exact ⟨(hR.sB b hs.1).1, .inl (Nat.le_trans h.size hs.2)⟩
    · refine (hsame b (Nat.lt_of_lt_of_le hb h.size) fun l hl hb' => ?_).trans (h.base b hb hio)
      rcases (h.fpB _ b hb').2 with hh | hh
      · omega
      · exact hio _ hh.choose_spec.1
  · refine hrv.mono (fun _ _ => rfl) hST (fun l b sh ver cs e _ hb => ⟨cs, e, hb, rfl⟩) fun l ver hl => ?_
    rw [hlab] at hl; cases hl

/- ---- the same, told by computation -/
def inLs (L : List Nat) : List (Nat × Nat) → Prop
  | [] => True
  | p :: r => p.1 ∈ L ∧ inLs L r
theorem inLs_nil (L : List Nat) : inLs L [] = True := rfl
theorem inLs_cons (L : List Nat) (l v : Nat) (r : List (Nat × Nat)) : inLs L ((l, v) :: r) = (l ∈ L ∧ inLs L r) := rfl
def okK (L : List Nat) (b : Blk) : Prop := match b with
  | .box _ xs => inLs L (labsL xs)
  | _ => True
theorem okK_box (L : List Nat) (v : Nat) (xs : List AV) : okK L (.box v xs) = inLs L (labsL xs) := rfl
theorem okK_row (L : List Nat) (v : Nat) (sh : Sh) (d : Bool) (xs : List AV) : okK L (.row v sh d xs) = True := rfl
theorem okK_gone (L : List Nat) (v : Nat) : okK L (.gone v) = True := rfl
def okB (L : List Nat) : Mem → Prop
  | [] => True
  | (l, b) :: r => (l ∈ L ∧ okK L b) ∧ okB L r
theorem okB_nil (L : List Nat) : okB L [] = True := rfl
theorem okB_cons (L : List Nat) (l : Nat) (b : Blk) (r : Mem) : okB L ((l, b) :: r) = ((l ∈ L ∧ okK L b) ∧ okB L r) := rfl
def sameB (m m' : Mem) : List Nat → Prop
  | [] => True
  | l :: r => lookB m l = lookB m' l ∧ sameB m m' r
theorem sameB_nil (m m' : Mem) : sameB m m' [] = True := rfl
theorem sameB_cons (m m' : Mem) (l : Nat) (r : List Nat) : sameB m m' (l :: r) = (lookB m l = lookB m' l ∧ sameB m m' r) := rfl
def hiLs : List Nat → Prop
  | [] => True
  | l :: r => 1000000000 ≤ l ∧ hiLs r
theorem hiLs_nil : hiLs [] = True := rfl
theorem hiLs_cons (l : Nat) (r : List Nat) : hiLs (l :: r) = (1000000000 ≤ l ∧ hiLs r) := rfl
attribute [go_sem] keys_nil keys_cons inLs_nil inLs_cons okK_box okK_row okK_gone okB_nil okB_cons sameB_nil sameB_cons hiLs_nil hiLs_cons finH_normal finH_ret
end Go.Vc


/-
  Rows that are given away: they stay readable for good. Contracts of functions whose result shares with what they were given.
-/
set_option linter.unusedVariables false
set_option linter.unusedSimpArgs false
set_option linter.unnecessarySimpa false
namespace Go.Vc

section
variable {P : Program} {B : Base} {N : Nat} {φ : Nat → LS} {fp : Nat → List Nat} {S : Nat → Prop} {ts : Env} {m : Mem} {a : Act} {w : World}

end

/-- arguments, of which some are slices of the row that is given away -/
def frzOk (l v : Nat) (sh : Sh) (ys : List AV) : List AV → List AV → Prop
  | [], [] => True
  | x :: xs, t :: r => ((∃ i n, x = .ref l v i n ∧ i + n ≤ ys.length ∧ t = .arr sh ((ys.drop i).take n)) ∨ (labs x = [] ∧ isClo x = false ∧ t = x)) ∧ frzOk l v sh ys xs r
  | _, _ => False
theorem frzOk_ref {l v : Nat} {sh : Sh} {ys xs r : List AV} (i n : Nat) (h : i + n ≤ ys.length) (hr : frzOk l v sh ys xs r) : frzOk l v sh ys (.ref l v i n :: xs) (.arr sh ((ys.drop i).take n) :: r) := ⟨.inl ⟨i, n, rfl, h, rfl⟩, hr⟩
theorem frzOk_no {l v : Nat} {sh : Sh} {ys xs r : List AV} {x : AV} (h : labs x = []) (h2 : isClo x = false) (hr : frzOk l v sh ys xs r) : frzOk l v sh ys (x :: xs) (x :: r) := ⟨.inr ⟨h, h2, rfl⟩, hr⟩
/-- A call that gives a row away: the result may share with it. -/
theorem sCallT_frz {P : Program} {f : FuncId} {d : Nat} {xs trs xt : List AV} {m : Mem} {k : AV → Mem → Prop} {q : Pack k} {post : AV → Prop} (l v : Nat) (sh : Sh) (dp : Bool) (ys : List AV) (hfn : Fn P f trs false post) (hl : l < ioL)
    (hm : lookB m l = some (.row v sh dp ys)) (hx : frzOk l v sh ys xs trs) (hk : ∀ r, post r → k r ((l, .gone v) :: m)) : sCallT P f d xs xt m k q := by
  refine .inl fun B N φ fp S ts a w vs h hsz hrv hxl => ⟨hfn.1, ?_⟩
  have hf := h.frz hl hm (v := v) rfl
  have hlen : ∀ (xs trs : List AV), frzOk l v sh ys xs trs → trs.length = xs.length ∧ ∀ i (h1 : i < xs.length) (h2 : i < trs.length),
      (∃ j n, xs[i] = .ref l v j n ∧ j + n ≤ ys.length ∧ trs[i] = .arr sh ((ys.drop j).take n)) ∨ (labs xs[i] = [] ∧ isClo xs[i] = false ∧ trs[i] = xs[i]) := by
    intro xs
    induction xs with
    | nil => intro trs hx; cases trs with
      | nil => exact ⟨rfl, fun i h1 => absurd h1 (Nat.not_lt_zero _)⟩
      | cons => exact hx.elim
    | cons x xs ih => intro trs hx; cases trs with
      | nil => exact hx.elim
      | cons t r =>
        obtain ⟨g1, g2⟩ := ih r hx.2
        refine ⟨by simp [g1], fun i h1 h2 => ?_⟩
        cases i with
        | zero => exact hx.1
        | succ i => exact g2 i (by simpa using h1) (by simpa using h2)
  obtain ⟨hlen, helt⟩ := hlen xs trs hx
  refine (hfn.2 w (fun b => S b ∨ b ∈ fp l) vs (fun b hb => (hf.sB b hb).1) hf.kon (hsz.trans hlen.symm) fun i hi => ?_).mono ?_
  · have hi2 : i < xs.length := by omega
    rcases helt i hi2 hi with ⟨j, n, e1, e2, e3⟩ | ⟨e1, e2, e3⟩
    · rw [e3]
      have := hrv i hi2
      rw [e1] at this
      exact frz_rd h hl hm e2 this
    · rw [e3]
      exact (rd_of_rv (hrv i hi2) e1).mono (fun _ _ => rfl) fun _ h => .inl h
  · rintro e w' ⟨r, v', rfl, hr, hg, hres⟩
    simp only [FnRes, Bool.false_eq_true, if_false] at hres
    have hRS := (hf.grown hg).hold (fun b => w.heap.size ≤ b ∧ b < w'.heap.size) (fun b hb => ⟨hb.2, Nat.le_trans hf.size hb.1, fun k hk => by have := (hf.fpB k b hk).1; omega⟩)
    exact ⟨v', rfl, _, _, _, ts, _, r, hRS, .rd _ _ hres, fun k ver hk => (by rw [labs_rd hres] at hk; cases hk), rfl, hk r hr⟩

/-- Ahead of any piece of code a row of ours may be given away: temporary t, a slice of it, is a readable list from then on. -/
theorem Later.frz {P : Program} {N : Nat} {code : Code} {ts : Env} {m : Mem} {Q : Post} {q : Pack (code, Q)} (t l v i n : Nat) (sh : Sh) (d : Bool) (ys : List AV) (hl : l < ioL) (hm : lookB m l = some (.row v sh d ys)) (ht : look ts t = .ref l v i n) (hn : i + n ≤ ys.length)
    (h : Later P N code ((t, .arr sh ((ys.drop i).take n)) :: ts) ((l, .gone v) :: m) Q q) : Later P N code ts m Q q := by
  refine ⟨fun B φ fp S a w hRS => h.ok B _ _ _ a w (?_ : RS B N (offφ l φ) (offF l fp) (fun b => S b ∨ b ∈ fp l) _ _ a w)⟩
  have hf := hRS.frz hl hm (v := v) rfl
  have hu := hRS.tm t
  rw [ht] at hu
  have hrd := frz_rd hRS hl hm hn hu
  refine { hf with tm := fun t' => ?_, tl := fun t' k ver hk => ?_ }
  · rw [look_cons]
    split
    · rename_i e; subst e; exact .rd _ _ hrd
    · exact hf.tm t'
  · rw [look_cons] at hk
    split at hk
    · cases hk
    · exact hf.tl t' k ver hk

/-- What must hold where the body of a function ends whose result is readable. -/
def finS (P : Program) (rs : List ResultVar) (post : AV → Prop) : Post
  | .normal => fun ts m => sResults P (fun xs => sGivAs (fun ys _ => labsL ys = [] ∧ post (mkRes ys)) [] m xs) rs ts m []
  | .ret => fun ts m => sResults P (fun xs => sGivAs (fun ys _ => labsL ys = [] ∧ post (mkRes ys)) [] m xs) rs ts m []
  | _ => fun _ _ => False
theorem finS_normal (P : Program) (rs : List ResultVar) (post : AV → Prop) (ts : Env) (m : Mem) : finS P rs post .normal ts m = sResults P (fun xs => sGivAs (fun ys _ => labsL ys = [] ∧ post (mkRes ys)) [] m xs) rs ts m [] := rfl
theorem finS_ret (P : Program) (rs : List ResultVar) (post : AV → Prop) (ts : Env) (m : Mem) : finS P rs post .ret ts m = sResults P (fun xs => sGivAs (fun ys _ => labsL ys = [] ∧ post (mkRes ys)) [] m xs) rs ts m [] := rfl

theorem Fn.of_vcS' {P : Program} {f : FuncId} {fn : Func} {c : Code} {args : List AV} {post : AV → Prop} (hf : P.funcs[f]? = some fn) (hn : (fn.name == "runtime.NumGoroutine") = false) (hb : fn.body = some c)
    (hok : codeOk fn.ntmps c = true) (ha : args.length ≤ fn.ntmps) (hv : vc P fn.ntmps c (argsE 0 args) [] (finS P fn.results.toList post)) : Fn P f args false post := by
  refine ⟨⟨fn, c, hf, hn, hb⟩, fun w S vs hS hkon hsz hrd => ?_⟩
  refine calls_of_wp hf hb ?_
  have hRS : RS ⟨w, fun _ _ => False, S, fun _ => .dead, []⟩ fn.ntmps (fun _ => .dead) (fun _ => []) S (argsE 0 args) [] { tmps := vs ++ Array.replicate (fn.ntmps - vs.size) undef, defers := [] } w := by
    have hlook : ∀ t, (look (argsE 0 args) t = .undef ∨ ∃ h : t < args.length, look (argsE 0 args) t = args[t]) := by
      intro t
      rw [look_argsE]
      by_cases h : t < args.length
      · exact .inr ⟨h, by simp [h]⟩
      · exact .inl (by simp [h])
    refine { tm := fun t => ?_, tl := fun t l ver hl => ?_, mNone := fun _ _ => ⟨rfl, rfl⟩, mSome := fun l k hk => (by cases hk), bl := fun l v xs hk => (by cases hk), nod := fun _ => List.nodup_nil,
             dis := fun _ _ _ h => (by cases h), notS := fun _ _ h => (by cases h), fpB := fun _ _ h => (by cases h), sB := fun b hb => ⟨hS b hb, .inr hb⟩, base := fun b hb _ => rfl, out := SameOut.refl _, szs := Szs.refl _, kn := fun _ _ _ hk => hk, fix := fun _ _ _ _ => LS.le_refl _ _,
             size := Nat.le_refl _, defers := rfl, tsz := by simp; omega, kon := hkon }
    · rcases hlook t with e | ⟨h, e⟩
      · rw [e]; exact .rd _ _ (.undef _)
      · rw [e]
        have h1 := hrd t h
        have : vs.toList.getD t Go.undef = (vs ++ Array.replicate (fn.ntmps - vs.size) undef).getD t Go.undef := by
          have h2 : t < vs.size := by omega
          simp only [Array.getD_eq_getD_getElem?, List.getD_eq_getElem?_getD, Array.getElem?_toList]
          rw [Array.getElem?_append_left h2]
        rw [← this]
        exact .rd _ _ h1
    · rcases hlook t with e | ⟨h, e⟩
      · rw [e] at hl; cases hl
      · rw [e, labs_rd (hrd t h)] at hl; cases hl
  have hend : ∀ a' w', Done ⟨w, fun _ _ => False, S, fun _ => .dead, []⟩ fn.ntmps (fun ts m => sResults P (fun xs => sGivAs (fun ys _ => labsL ys = [] ∧ post (mkRes ys)) [] m xs) fn.results.toList ts m []) a' w' →
      a'.defers = [] ∧ ∃ v, (results fn a'.tmps).run P w' = .ok v w' ∧ ∃ r v', Ending.returned v = .returned v' ∧ post r ∧ Grown w w' ∧ FnRes w w' S false r v' := by
    rintro a' w' ⟨φ0, fp0, S0, ts', m0, h0, hk⟩
    refine ⟨h0.defers, ?_⟩
    obtain ⟨ys0, us, h1, h2, h3, h4⟩ := results_out' h0 fn.results.toList [] [] ⟨rfl, fun i hi => absurd hi (Nat.not_lt_zero _)⟩ (fun i hi => absurd hi (Nat.not_lt_zero _)) hk
    obtain ⟨φ', fp', S', m', ys, hgv, h3, hlab, hpost⟩ := givAs_out ys0 us [] [] h0 (by simpa using h3) ⟨rfl, fun i hi => absurd hi (Nat.not_lt_zero _)⟩ h1
    have h' := hgv.rs
    obtain ⟨h3a, h3b⟩ := h3
    simp only [List.nil_append] at h3a h3b
    refine ⟨if h : us.toArray.size = 1 then us.toArray[0] else .tuple us.toArray, ?_, mkRes ys, _, rfl, hpost, ⟨h'.size, fun b hb => h'.base b hb (fun _ h => h), h'.out⟩, ?_⟩
    · have hm : results fn a'.tmps = (do let vs ← fn.results.mapM (resOne a'.tmps); pure (if h : vs.size = 1 then vs[0] else .tuple vs)) := by
        unfold results
        congr 1
      rw [hm, Sem.run_bind, Array.mapM_eq_mapM_toList]
      have : (List.toArray <$> fn.results.toList.mapM (resOne a'.tmps) : Sem (Array Value)).run P w' = .ok us.toArray w' := by
        rw [map_eq_pure_bind, Sem.run_bind, h2]; rfl
      rw [this]; rfl
    · show Rd w' _ _ _
      refine (rd_of_rv (mkRes_rv h3a h3b) (labs_mkRes hlab)).mono (fun _ _ => rfl) fun b hb => ?_
      rcases (h'.sB b hb).2 with hh | hh
      · exact .inr ⟨hh, (h'.sB b hb).1⟩
      · exact .inl hh
  refine wp_mono (vc_sound c _ _ _ hok hv _ _ _ _ _ _ hRS) ?_
  intro e a' w' hq
  cases e with
  | normal => exact hend a' w' hq
  | ret => exact hend a' w' hq
  | _ => obtain ⟨_, _, _, _, _, _, hh⟩ := hq; exact hh.elim
theorem Fn.of_vcS {P : Program} {f : FuncId} {fn : Func} {c : Code} {args : List AV} {post : AV → Prop} (N : Nat) (rs : List ResultVar) (hf : P.funcs[f]? = some fn) (hN : fn.ntmps = N) (hr : fn.results.toList = rs) (hn : (fn.name == "runtime.NumGoroutine") = false)
    (hb : fn.body = some c) (hok : codeOk N c = true) (ha : args.length ≤ N) (hv : vc P N c (argsE 0 args) [] (finS P rs post)) : Fn P f args false post := by
  subst hN; subst hr; exact Fn.of_vcS' hf hn hb hok ha hv
attribute [go_sem] finS_normal finS_ret labs_val labs_e0 labs_arr labsL_nil labsL_cons
end Go.Vc


/-
  A region that draws its order, whose last operations each wait for all before them: the first by the rule for drawn regions, the last in the order of the text.
-/
set_option linter.unusedVariables false
set_option linter.unusedSimpArgs false
set_option linter.unnecessarySimpa false
namespace Go.Vc

section
variable {P : Program} {B : Base} {N : Nat} {φ : Nat → LS} {fp : Nat → List Nat} {S : Nat → Prop} {ts : Env} {m : Mem} {a : Act} {w : World}
variable {os : Nat → Oper} {qs : Nat → Rec} {D D' : Nat → Bool} {ops : List Oper} {tr : List (List Nat × List Nat)}

end

end Go.Vc


/-
  Contracts of functions that write blocks of their caller's and whose result is readable.
-/
set_option linter.unusedVariables false
set_option linter.unusedSimpArgs false
set_option linter.unnecessarySimpa false
namespace Go.Vc

/-- As FnM, but the result is what may be read for good. -/
def FnMR (P : Program) (f : FuncId) (io : List Blk) (args : List AV) (post : AV → List Blk → Prop) : Prop :=
  Enters P f ∧ ∀ (w : World) (φ : Nat → LS) (fp : Nat → List Nat) (S : Nat → Prop) (vs : Array Value), vs.size = args.length →
    RS (ioB w φ fp S io) vs.size φ fp S (argsE 0 args) (ioM 0 io) { tmps := vs, defers := [] } w →
    Calls P f vs w fun e w' => ∃ r v io' φ' fp' S' m', e = .returned v ∧ post r io' ∧ RS (ioB w φ fp S io) 0 φ' fp' S' [] m' { tmps := #[], defers := [] } w' ∧ IoOk io io' m' ∧ Rd w' S' r v

def finMR (P : Program) (rs : List ResultVar) (vers : List Nat) (post : AV → List Blk → Prop) : Post
  | .normal => fun ts m => sResults P (fun xs => sGivAs (fun ys m' => labsL ys = [] ∧ sIoB m' (fun io' => post (mkRes ys) io') 0 vers []) [] m xs) rs ts m []
  | .ret => fun ts m => sResults P (fun xs => sGivAs (fun ys m' => labsL ys = [] ∧ sIoB m' (fun io' => post (mkRes ys) io') 0 vers []) [] m xs) rs ts m []
  | _ => fun _ _ => False
theorem finMR_normal (P : Program) (rs : List ResultVar) (vers : List Nat) (post : AV → List Blk → Prop) (ts : Env) (m : Mem) :
    finMR P rs vers post .normal ts m = sResults P (fun xs => sGivAs (fun ys m' => labsL ys = [] ∧ sIoB m' (fun io' => post (mkRes ys) io') 0 vers []) [] m xs) rs ts m [] := rfl
theorem finMR_ret (P : Program) (rs : List ResultVar) (vers : List Nat) (post : AV → List Blk → Prop) (ts : Env) (m : Mem) :
    finMR P rs vers post .ret ts m = sResults P (fun xs => sGivAs (fun ys m' => labsL ys = [] ∧ sIoB m' (fun io' => post (mkRes ys) io') 0 vers []) [] m xs) rs ts m [] := rfl

theorem FnMR.of_vc' {P : Program} {f : FuncId} {fn : Func} {c : Code} {io : List Blk} {args : List AV} {post : AV → List Blk → Prop} (hf : P.funcs[f]? = some fn) (hn : (fn.name == "runtime.NumGoroutine") = false) (hb : fn.body = some c)
    (hok : codeOk fn.ntmps c = true) (ha : args.length ≤ fn.ntmps) (hv : vc P fn.ntmps c (argsE 0 args) (ioM 0 io) (finMR P fn.results.toList (io.map Blk.ver) post)) : FnMR P f io args post := by
  refine ⟨⟨fn, c, hf, hn, hb⟩, fun w φ fp S vs hsz hR0 => ?_⟩
  refine calls_of_wp hf hb ?_
  have hRS : RS (ioB w φ fp S io) fn.ntmps φ fp S (argsE 0 args) (ioM 0 io) { tmps := vs ++ Array.replicate (fn.ntmps - vs.size) undef, defers := [] } w := by
    refine { hR0 with tm := fun t => ?_, defers := rfl, tsz := by simp; omega }
    by_cases h : t < args.length
    · have h1 := hR0.tm t
      have : vs.getD t Go.undef = (vs ++ Array.replicate (fn.ntmps - vs.size) undef).getD t Go.undef := by
        have h2 : t < vs.size := by omega
        simp only [Array.getD_eq_getD_getElem?]
        rw [Array.getElem?_append_left h2]
      rw [← this]; exact h1
    · rw [look_argsE]
      have : (if 0 ≤ t then (args[t - 0]?).getD AV.undef else .undef) = .undef := by simp [List.getElem?_eq_none (show args.length ≤ t by omega)]
      rw [this]; exact .rd _ _ (.undef _)
  have hend : ∀ a' w', Done (ioB w φ fp S io) fn.ntmps (fun ts m => sResults P (fun xs => sGivAs (fun ys m' => labsL ys = [] ∧ sIoB m' (fun io' => post (mkRes ys) io') 0 (io.map Blk.ver) []) [] m xs) fn.results.toList ts m []) a' w' →
      a'.defers = [] ∧ ∃ v, (results fn a'.tmps).run P w' = .ok v w' ∧ ∃ r v' io' φ' fp' S' m', Ending.returned v = .returned v' ∧ post r io' ∧ RS (ioB w φ fp S io) 0 φ' fp' S' [] m' { tmps := #[], defers := [] } w' ∧ IoOk io io' m' ∧
        Rd w' S' r v' := by
    rintro a' w' ⟨φ0, fp0, S0, ts', m0, h0, hk⟩
    refine ⟨h0.defers, ?_⟩
    obtain ⟨ys0, us, h1, h2, h3, h4⟩ := results_out' h0 fn.results.toList [] [] ⟨rfl, fun i hi => absurd hi (Nat.not_lt_zero _)⟩ (fun i hi => absurd hi (Nat.not_lt_zero _)) hk
    obtain ⟨φ', fp', S', m', ys, hgv, h3, hlab, h1⟩ := givAs_out ys0 us [] [] h0 (by simpa using h3) ⟨rfl, fun i hi => absurd hi (Nat.not_lt_zero _)⟩ h1
    have h' := hgv.rs
    obtain ⟨h3a, h3b⟩ := h3
    simp only [List.nil_append] at h3a h3b
    obtain ⟨io', q1, q2, q3⟩ := sIo_out _ _ _ h1
    rw [List.reverse_nil, List.nil_append] at q1
    refine ⟨if h : us.toArray.size = 1 then us.toArray[0] else .tuple us.toArray, ?_, mkRes ys, _, io', φ', fp', S', m', rfl, q1, ?_, ⟨by simpa using q2, fun k hk hk' => ?_⟩, rd_of_rv (mkRes_rv h3a h3b) (labs_mkRes hlab)⟩
    · have hm : results fn a'.tmps = (do let vs ← fn.results.mapM (resOne a'.tmps); pure (if h : vs.size = 1 then vs[0] else .tuple vs)) := by
        unfold results
        congr 1
      rw [hm, Sem.run_bind, Array.mapM_eq_mapM_toList]
      have : (List.toArray <$> fn.results.toList.mapM (resOne a'.tmps) : Sem (Array Value)).run P w' = .ok us.toArray w' := by
        rw [map_eq_pure_bind, Sem.run_bind, h2]; rfl
      rw [this]; rfl
    · exact { h' with tm := fun t => by rw [look_nil]; exact .rd _ _ (.undef _), tl := fun t l ver hl => (by rw [look_nil] at hl; cases hl), defers := rfl, tsz := rfl }
    · have := q3 k hk (by simpa using hk')
      rw [Nat.zero_add] at this
      refine ⟨this.1, ?_, this.2.2⟩
      rw [this.2.1, List.getElem_map]
  refine wp_mono (vc_sound c _ _ _ hok hv _ _ _ _ _ _ hRS) ?_
  intro e a' w' hq
  cases e with
  | normal => exact hend a' w' hq
  | ret => exact hend a' w' hq
  | _ => obtain ⟨_, _, _, _, _, _, hh⟩ := hq; exact hh.elim
theorem FnMR.of_vc {P : Program} {f : FuncId} {fn : Func} {c : Code} {io : List Blk} {args : List AV} {post : AV → List Blk → Prop} (N : Nat) (rs : List ResultVar) (hf : P.funcs[f]? = some fn) (hN : fn.ntmps = N) (hr : fn.results.toList = rs)
    (hn : (fn.name == "runtime.NumGoroutine") = false) (hb : fn.body = some c) (hok : codeOk N c = true) (ha : args.length ≤ N) (hv : vc P N c (argsE 0 args) (ioM 0 io) (finMR P rs (io.map Blk.ver) post)) : FnMR P f io args post := by
  subst hN; subst hr; exact FnMR.of_vc' hf hn hb hok ha hv

section
variable {P : Program} {B : Base} {N : Nat} {φ : Nat → LS} {fp : Nat → List Nat} {S : Nat → Prop} {ts : Env} {m : Mem} {a : Act} {w : World}
end
def sCallMR (P : Program) (f : FuncId) (ρ : List Nat) (io : List Blk) (args : List AV) (m : Mem) (k : AV → Mem → Prop) (_ : Pack k) : Prop :=
  ∃ post, FnMR P f io args post ∧ ∀ r io', post r io' → k r (putIo ρ io' m)
@[congr] theorem sCallMR_congr {P : Program} {f : FuncId} {ρ : List Nat} {io io' : List Blk} {args args' : List AV} {m : Mem} {k : AV → Mem → Prop} {q : Pack k} (h : io = io') (h' : args = args') : sCallMR P f ρ io args m k q = sCallMR P f ρ io' args' m k q := by rw [h, h']
def sCallMRX (P : Program) (f : FuncId) (ρ : List Nat) (io : List Blk) (args : List AV) (m : Mem) (k : AV → Mem → Prop) (_ : Pack k) : Prop :=
  ∃ r io1, FnMR P f io args (fun x io' => x = r ∧ io' = io1) ∧ k r (putIo ρ io1 m)
@[congr] theorem sCallMRX_congr {P : Program} {f : FuncId} {ρ : List Nat} {io io' : List Blk} {args args' : List AV} {m : Mem} {k : AV → Mem → Prop} {q : Pack k} (h : io = io') (h' : args = args') : sCallMRX P f ρ io args m k q = sCallMRX P f ρ io' args' m k q := by rw [h, h']
attribute [go_sem] finMR_normal finMR_ret
end Go.Vc


/-
  Rows given away at a loop's end, and rows that a box names; calls stepped through in place, one within the other.
-/
set_option linter.unusedVariables false
set_option linter.unusedSimpArgs false
set_option linter.unnecessarySimpa false
namespace Go.Vc

section
variable {P : Program} {N : Nat} {ts : Env} {m : Mem}

theorem Ok.frz {code : Code} {Q : Post} (t l v i n : Nat) (sh : Sh) (d : Bool) (ys : List AV) (hl : l < ioL) (hm : lookB m l = some (.row v sh d ys)) (ht : look ts t = .ref l v i n) (hn : i + n ≤ ys.length)
    (h : Ok P N code ((t, .arr sh ((ys.drop i).take n)) :: ts) ((l, .gone v) :: m) Q) : Ok P N code ts m Q :=
  (Later.frz (q := ⟨⟩) t l v i n sh d ys hl hm ht hn ⟨h⟩).ok

end

section
variable {P : Program} {B : Base} {N : Nat} {φ : Nat → LS} {fp : Nat → List Nat} {S : Nat → Prop} {ts : Env} {m : Mem} {a : Act} {w : World}
end

/-- A row of ours that a box names is given away, or none. -/
inductive GivB (m : Mem) : Mem → Prop
  | refl : GivB m m
  | box (lb vb j l v i n : Nat) (sh : Sh) (d : Bool) (xs ys : List AV) (hl : l < ioL) (hb : lookB m lb = some (.box vb xs)) (hx : xs[j]? = some (.ref l v i n)) (hm : lookB m l = some (.row v sh d ys)) (hn : i + n ≤ ys.length) :
      GivB m ((lb, .box vb (xs.set j (.arr sh ((ys.drop i).take n)))) :: (l, .gone v) :: m)
def finHZ (P : Program) (rs : List ResultVar) (L : List Nat) (post : AV → Mem → Prop) : Post
  | .normal => fun ts m => sResults P (fun ys => labsL ys = [] ∧ ∃ mz m', GivB m mz ∧ post (mkRes ys) m' ∧ keepsM L mz m') rs ts m []
  | .ret => fun ts m => sResults P (fun ys => labsL ys = [] ∧ ∃ mz m', GivB m mz ∧ post (mkRes ys) m' ∧ keepsM L mz m') rs ts m []
  | _ => fun _ _ => False
theorem finHZ_normal (P : Program) (rs : List ResultVar) (L : List Nat) (post : AV → Mem → Prop) (ts : Env) (m : Mem) :
    finHZ P rs L post .normal ts m = sResults P (fun ys => labsL ys = [] ∧ ∃ mz m', GivB m mz ∧ post (mkRes ys) m' ∧ keepsM L mz m') rs ts m [] := rfl
theorem finHZ_ret (P : Program) (rs : List ResultVar) (L : List Nat) (post : AV → Mem → Prop) (ts : Env) (m : Mem) :
    finHZ P rs L post .ret ts m = sResults P (fun ys => labsL ys = [] ∧ ∃ mz m', GivB m mz ∧ post (mkRes ys) m' ∧ keepsM L mz m') rs ts m [] := rfl
attribute [go_sem] finHZ_normal finHZ_ret
end Go.Vc


/-
  A row within a deep row of ours is taken out, written, and put back; a row of ours becomes a box.
-/
set_option linter.unusedVariables false
set_option linter.unusedSimpArgs false
set_option linter.unnecessarySimpa false
namespace Go.Vc

section
variable {P : Program} {B : Base} {N : Nat} {φ : Nat → LS} {fp : Nat → List Nat} {S : Nat → Prop} {ts : Env} {m : Mem} {a : Act} {w : World}

theorem RS.boxed (h : RS B N φ fp S ts m a w) {l v : Nat} {sh : Sh} {xs : List AV} (hlk : lookB m l = some (.row v sh true xs)) (h1 : sh.sz = 1 ∧ sh.ag = false) (h0 : 0 < xs.length) (hfl : ∀ x, x ∈ xs → isFlat x = true) : ∃ φ2 fp2, RS B N φ2 fp2 S ts ((l, .box v xs) :: m) a w := by
  obtain ⟨z1, z2⟩ := h1
  have hsh : sh = ⟨1, false⟩ := by cases sh; simp only at z1 z2; subst z1; subst z2; rfl
  subst hsh
  rcases h.mSome l _ hlk with ⟨_, e0, _⟩ | ⟨b, cap, hφ, hbm, _, hown⟩
  · rw [e0] at h0; exact absurd h0 (Nat.not_lt_zero _)
  simp only [if_true] at hown
  rcases own_arr hown with ⟨e0, _⟩ | ⟨b', cap', cs, e', fss, q1, hfp, hheap, hc, hl', hm, hf, hs, hv⟩
  · rw [e0] at h0; exact absurd h0 (Nat.not_lt_zero _)
  simp only [Value.slice.injEq, Option.some.injEq, Addr.mk.injEq] at q1
  obtain ⟨⟨rfl, _⟩, _, rfl⟩ := q1
  have hlx : ∀ i (hi : i < xs.length), leaf xs[i] := fun i hi => by
    have h1 := hf i hi
    generalize xs[i] = x at h1
    cases x <;> first | trivial | exact h1.elim | (have := h1.1; cases this)
  have hvr : ∀ i (hi : i < xs.length), Rd w S xs[i] (cs.toList.getD i Go.undef) := fun i hi => by
    have := (flat_rd (S' := S) (hv i hi) (hfl _ (List.getElem_mem hi))).1
    rwa [elemV_cell, Nat.mul_one] at this
  refine ⟨_, _, h.next l (φ l) [b] S (.box v xs) (Nat.le_refl _) (SameOut.refl _) (Szs.refl _) (fun _ _ _ => rfl) (fun c hc => ⟨hc, rfl⟩) (fun c h1 h2 => absurd h1 h2) (fun l b sh ver cs e _ hb => ⟨cs, e, hb, rfl⟩)
      (fun _ _ _ _ => rfl) (fun ver _ => LS.le_refl _ _) ?_ ?_ ?_ (by simp) ?_⟩
  · rintro ver ⟨k', h1, h2⟩
    rw [hlk] at h1; cases h1; exact h2
  · exact ⟨b, cs, e', ⟨1, false⟩, by rw [upd_same]; exact hφ, rfl, hheap, (by rw [hc]; simpa using hl'), hlx, fun i hi => .rd _ _ (hvr i hi)⟩
  · intro v' ys hb l' ver hl
    cases hb
    obtain ⟨i, hi, hl⟩ := of_mem_labsL hl
    rw [labs_rd (hvr i hi)] at hl; cases hl
  · intro c hc
    simp only [List.mem_singleton] at hc
    subst hc
    have := h.fpB l c hbm
    exact ⟨h.notS l c hbm, fun l' hl' hc' => hl' (h.dis l' l c hc' hbm), this.1, this.2⟩
/-- Ahead of any piece of code a row of ours of flat cells may become a box. -/
theorem Later.boxed {code : Code} {Q : Post} {q : Pack (code, Q)} (l v : Nat) (xs : List AV) (hlk : lookB m l = some (.row v ⟨1, false⟩ true xs)) (h0 : 0 < xs.length) (hfl : ∀ x, x ∈ xs → isFlat x = true)
    (h : Later P N code ts ((l, .box v xs) :: m) Q q) : Later P N code ts m Q q :=
  ⟨fun B φ fp S a w hRS => have ⟨_, _, hR⟩ := hRS.boxed hlk ⟨rfl, rfl⟩ h0 hfl; h.ok B _ _ _ a w hR⟩
end
end Go.Vc


/-
  A callee that writes one row of its caller's, by a contract that speaks of cells: as the layer Vc's contract.
-/
set_option linter.unusedVariables false
set_option linter.unusedSimpArgs false
set_option linter.unnecessarySimpa false
namespace Go.Vc
theorem FnM.row {P : Program} {f : FuncId} (v : Nat) (xs ys : List AV) (hlen : ys.length = xs.length) (hflat : isFlatL xs = true) (hfy : ∀ i (h : i < ys.length), fits ⟨1, false⟩ ys[i]) (hE : Enters P f)
    (hc : ∀ (w : World) (b cap : Nat) (cs : Array Value) (e : El), w.heap[b]? = some (celO cs e) → cs.size = cap → xs.length ≤ cap → (∀ i (h : i < xs.length), Rd w (fun _ => False) xs[i] (cs.toList.getD i Go.undef)) →
      Calls P f #[.slice (some ⟨b, 0, none⟩) xs.length cap] w fun e' w' => e' = .returned (.tuple #[]) ∧ ∃ cs' : Array Value, cs'.size = cs.size ∧ (∀ i (h : i < ys.length), Rd w' (fun _ => False) ys[i] (cs'.toList.getD i Go.undef)) ∧
        w'.heap[b]? = some (celO cs' e) ∧ (∀ c : Nat, c ≠ b → c < w.heap.size → w'.heap[c]? = w.heap[c]?) ∧ w.heap.size ≤ w'.heap.size ∧ SameOut w w')
    (h0 : xs = [] → ∀ (a : Option Addr) (w : World), Calls P f #[.slice a 0 0] w fun e' w' => e' = .returned (.tuple #[]) ∧ Grown w w') :
    FnM P f [.row v ⟨1, false⟩ true xs] [.ref 1000000000 v 0 xs.length] (fun r io => r = .tup [] ∧ io = [.row v ⟨1, false⟩ true ys]) := by
  refine ⟨hE, fun w φ fp S vs hsz hR => ?_⟩
  have hv0 := hR.tm 0
  have hlk : lookB (ioM 0 [Blk.row v ⟨1, false⟩ true xs]) ioL = some (.row v ⟨1, false⟩ true xs) := rfl
  obtain ⟨u, rfl⟩ : ∃ u, vs = #[u] := by
    have : vs.size = 1 := hsz
    exact ⟨vs[0], by apply Array.ext <;> simp_all⟩
  have hx : RV w S φ (.ref 1000000000 v 0 xs.length) u := hv0
  obtain ⟨r1, r2⟩ := rv_ref hx
  have fin : ∀ (w' : World) (fp' : Nat → List Nat) (k : Blk), k = .row v ⟨1, false⟩ true ys → RS (ioB w φ fp S [.row v ⟨1, false⟩ true xs]) (#[u] : Array Value).size φ fp' S (argsE 0 [.ref 1000000000 v 0 xs.length]) ((ioL, k) :: ioM 0 [.row v ⟨1, false⟩ true xs]) { tmps := #[u], defers := [] } w' →
      ∃ r v' io' φ' fp' S' m', Ending.returned (Value.tuple #[]) = .returned v' ∧ (r = .tup [] ∧ io' = [Blk.row v ⟨1, false⟩ true ys]) ∧ RS (ioB w φ fp S [.row v ⟨1, false⟩ true xs]) 0 φ' fp' S' [] m' { tmps := #[], defers := [] } w' ∧ IoOk [.row v ⟨1, false⟩ true xs] io' m' ∧
        ∃ fs, Own w' (fun _ => False) r v' fs ∧ fs.Nodup ∧ ∀ b, b ∈ fs → w.heap.size ≤ b ∧ ¬ S' b ∧ ∀ l, ioL ≤ l → b ∉ fp' l := by
    rintro w' fp' k rfl h
    refine ⟨.tup [], .tuple #[], _, φ, fp', S, _, rfl, ⟨rfl, rfl⟩, { h with tm := fun t => by rw [look_nil]; exact .rd _ _ (.undef _), tl := fun t l ver hl => (by rw [look_nil] at hl; cases hl), defers := rfl, tsz := rfl }, ⟨rfl, fun j hj hj' => ?_⟩, [], .rd _ _ (.tup [] #[] rfl fun i hi => absurd hi (Nat.not_lt_zero _)), List.nodup_nil, fun b hb => by cases hb⟩
    have : j = 0 := by simpa using hj
    subst this
    exact ⟨by simp [lookB_cons], rfl, trivial⟩
  have nilCase : xs = [] → (∃ a, u = .slice a 0 0) → Calls P f #[u] w fun e' w' => ∃ r v' io' φ' fp' S' m', e' = .returned v' ∧ (r = .tup [] ∧ io' = [Blk.row v ⟨1, false⟩ true ys]) ∧ RS (ioB w φ fp S [.row v ⟨1, false⟩ true xs]) 0 φ' fp' S' [] m' { tmps := #[], defers := [] } w' ∧ IoOk [.row v ⟨1, false⟩ true xs] io' m' ∧
        ∃ fs, Own w' (fun _ => False) r v' fs ∧ fs.Nodup ∧ ∀ b, b ∈ fs → w.heap.size ≤ b ∧ ¬ S' b ∧ ∀ l, ioL ≤ l → b ∉ fp' l := by
    rintro h1 ⟨a, rfl⟩
    have hy : ys = [] := List.eq_nil_of_length_eq_zero (by rw [hlen, h1]; rfl)
    refine (h0 h1 a w).mono ?_
    rintro e' w' ⟨rfl, hg⟩
    have hR2 := hR.grown hg
    refine fin w' fp (.row v ⟨1, false⟩ true ys) rfl ?_
    have e1 : lookB (ioM 0 [Blk.row v ⟨1, false⟩ true xs]) = lookB ((ioL, .row v ⟨1, false⟩ true ys) :: ioM 0 [.row v ⟨1, false⟩ true xs]) := by
      funext l
      rw [lookB_cons]
      split
      · rename_i e; subst e; rw [hlk, h1, hy]
      · rfl
    have kn : ∀ l ver, known (ioM 0 [Blk.row v ⟨1, false⟩ true xs]) l ver → known ((ioL, .row v ⟨1, false⟩ true ys) :: ioM 0 [.row v ⟨1, false⟩ true xs]) l ver := by
      rintro l ver ⟨k', q1, q2⟩
      exact ⟨k', by rw [← e1]; exact q1, q2⟩
    exact { hR2 with tl := fun t l ver hl => kn l ver (hR2.tl t l ver hl), mNone := fun l hl => hR2.mNone l (by rw [e1]; exact hl), mSome := fun l k hk => hR2.mSome l k (by rw [e1]; exact hk), bl := fun l v xs hb l' ver hl => kn l' ver (hR2.bl l v xs (by rw [e1]; exact hb) l' ver hl), kn := fun l ver h1 h2 => kn l ver (hR2.kn l ver h1 h2) }
  rcases hR.mSome ioL _ hlk with ⟨hφ, hxs, _⟩ | ⟨b, cap, hφ, hbm, _, hown⟩
  · exact nilCase hxs (r2 hφ).2
  · simp only [if_true] at hown
    obtain ⟨a, cap', rfl, hn, hcp⟩ := r1 b _ hφ
    rcases hcp with rfl | ⟨rfl, cs0, e0, hh0, hs0⟩
    · have hx0 : xs = [] := List.eq_nil_of_length_eq_zero (by omega)
      exact nilCase hx0 ⟨a, by rw [hx0]; rfl⟩
    · rcases own_arr hown with ⟨hx0, hf0, _⟩ | ⟨b', cap2, cs, e, fss, q1, hgf, hheap, hcs, hcap, hmx, hff, hfl, hvv⟩
      · rw [hf0] at hbm; cases hbm
      · simp only [Value.slice.injEq, Option.some.injEq, Addr.mk.injEq] at q1
        obtain ⟨⟨rfl, _⟩, _, rfl⟩ := q1
        rw [hheap] at hh0
        simp only [Option.some.injEq, Obj.cells.injEq] at hh0
        obtain ⟨rfl, -, -⟩ := hh0
        simp only [Nat.mul_one, Nat.zero_add] at hs0 hcs
        have hfe : ∀ i (h : i < xs.length), Rd w (fun _ => False) xs[i] (cs.toList.getD i Go.undef) ∧ fss.getD i [] = [] := by
          intro i hi
          have := flat_rd (S' := fun _ => False) (hvv i hi) (isFlatL_get hflat i hi)
          rw [elemV_cell, Nat.mul_one] at this
          exact this
        have hfs : fss.flatten = [] := List.flatten_eq_nil_iff.2 fun l hl => by
          obtain ⟨i, hi, rfl⟩ := List.getElem_of_mem hl
          have := (hfe i (hfl ▸ hi)).2
          rwa [List.getD_eq_getElem?_getD, List.getElem?_eq_getElem hi] at this
        rw [hfs] at hgf
        refine (hc w b cap' cs e hheap hs0 hn fun i hi => (hfe i hi).1).mono ?_
        rintro e' w' ⟨rfl, cs', hs', hr', hb', hoth, hsize, hout⟩
        have hbl := (hR.fpB ioL b (by rw [hgf]; simp)).1
        have hnx := hR.next (w' := w') ioL (φ ioL) (fp ioL) S (.row v ⟨1, false⟩ true ys) hsize hout ?_ ?_ ?_ (fun c h1 h2 => absurd h1 h2) ?_ ?_ (fun ver _ => LS.le_refl _ _) ?_ ?_ (fun _ _ hk => by cases hk) (hR.nod ioL) ?_
        · have e1 : upd φ ioL (φ ioL) = φ := by funext l; by_cases e : l = ioL <;> simp [upd, e]
          rw [e1] at hnx
          exact fin w' _ _ rfl hnx
        · intro c cs2 e2 hc2
          by_cases ec : c = b
          · subst ec; obtain rfl := celO_inj (hheap.symm.trans hc2); exact ⟨cs', e, hb', hs'⟩
          · exact ⟨cs2, e2, by rw [hoth c ec (Array.getElem?_eq_some_iff.1 hc2).1]; exact hc2, rfl⟩
        · intro c hcl hio
          exact hoth c (fun ec => hio ioL (by subst ec; show c ∈ fp ioL; rw [hgf]; simp)) hcl
        · intro c hcS
          exact ⟨hcS, hoth c (fun ec => hR.notS ioL b (by rw [hgf]; simp) (ec ▸ hcS)) (hR.sB c hcS).1⟩
        · intro l c sh ver cs2 e2 _ hc2
          by_cases ec : c = b
          · subst ec; obtain rfl := celO_inj (hheap.symm.trans hc2); exact ⟨cs', e, hb', hs'⟩
          · exact ⟨cs2, e2, by rw [hoth c ec (Array.getElem?_eq_some_iff.1 hc2).1]; exact hc2, rfl⟩
        · intro l' hl' c hcl
          exact hoth c (fun ec => hl' (hR.dis l' ioL c hcl (by rw [ec, hgf]; simp))) (hR.fpB l' c hcl).1
        · rintro ver ⟨k', q1, q2⟩
          rw [hlk] at q1; cases q1; exact q2
        · refine .inr ⟨b, cap, by rw [upd_same]; exact hφ, by rw [hgf]; simp, fun h => (by cases h), ?_⟩
          rw [hgf]
          have e2 : [b] = b :: (List.replicate ys.length ([] : List Nat)).flatten := by
            congr 1
            exact (List.flatten_eq_nil_iff.2 fun l hl => (List.mem_replicate.1 hl).2).symm
          show Own w' (fun _ => False) _ _ [b]
          rw [e2]
          refine .arr ⟨1, false⟩ ys b cap cs' e _ hb' (by rw [hs', hcs]; simp) (by omega) hmx hfy (by simp) fun i hi => ?_
          have e3 : (List.replicate ys.length ([] : List Nat)).getD i [] = [] := by simp [List.getD_eq_getElem?_getD, hi]
          rw [e3, elemV_cell, Nat.mul_one]
          exact .rd _ _ (hr' i hi)
        · intro c hc2
          have := hR.fpB ioL c hc2
          exact ⟨hR.notS ioL c hc2, fun l' hl' hc' => hl' (hR.dis l' ioL c hc' hc2), Nat.lt_of_lt_of_le this.1 hsize, this.2⟩
end Go.Vc


/-
  A contract of the kit's that sorts a row of numbers: as the layer Vc's contract.
-/
set_option linter.unusedVariables false
set_option linter.unusedSimpArgs false
set_option linter.unnecessarySimpa false
namespace Go.Vc
open Go.Sort
theorem flatInts : ∀ zs : List Int, isFlatL (zs.map fun n => AV.val (.int .i64 n)) = true
  | [] => rfl
  | _ :: r => by rw [List.map_cons, isFlatL_cons, flatInts r]; rfl
theorem holds_rd {w : World} {b : Nat} {cs : Array Value} {e : El} {zs : List Int} (hb : w.heap[b]? = some (celO cs e)) (hcap : zs.length ≤ cs.size)
    (hrd : ∀ i (h : i < (zs.map fun n => AV.val (.int .i64 n)).length), Rd w (fun _ => False) (zs.map fun n => AV.val (.int .i64 n))[i] (cs.toList.getD i Go.undef)) : Holds (Value.int .i64) w b 0 zs.toArray := by
  intro j hj
  have hj' : j < zs.length := by simpa using hj
  have h1 := hrd j (by simpa using hj')
  rw [List.getElem_map] at h1
  have h2 : cs.toList.getD j Go.undef = .int .i64 zs[j] := by generalize cs.toList.getD j Go.undef = u at h1; cases h1; rfl
  have h3 : j < cs.size := by omega
  have h5 : cs[j]? = some (.int .i64 zs[j]) := by
    rw [List.getD_eq_getElem?_getD, Array.getElem?_toList, Array.getElem?_eq_getElem h3] at h2
    rw [Array.getElem?_eq_getElem h3]
    exact congrArg some h2
  have h6 : zs.toArray[j]! = zs[j] := by rw [getElem!_pos zs.toArray j hj]; simp
  refine ⟨?_, ?_⟩
  · simp only [World.cell?, hb, Nat.zero_add, Option.isSome_none, Bool.false_eq_true, ↓reduceIte, h5, h6]
  · have := celO_free hb h3
    simpa using this
theorem put_facts {w : World} {b n : Nat} {cs : Array Value} {e : El} {ys : List Int} {os : Array Obj} (hb : w.heap[b]? = some (celO cs e)) (hcs : ys.length ≤ cs.size) :
    ∃ cs' : Array Value, cs'.size = cs.size ∧ (∀ i (h : i < (ys.map fun n => AV.val (.int .i64 n)).length), Rd (grow (putRow (Value.int .i64) (Sort.ahead w n) b 0 ys.toArray) os) (fun _ => False) (ys.map fun n => AV.val (.int .i64 n))[i] (cs'.toList.getD i Go.undef)) ∧
      (grow (putRow (Value.int .i64) (Sort.ahead w n) b 0 ys.toArray) os).heap[b]? = some (celO cs' e) ∧ (∀ c : Nat, c ≠ b → c < w.heap.size → (grow (putRow (Value.int .i64) (Sort.ahead w n) b 0 ys.toArray) os).heap[c]? = w.heap[c]?) ∧
      w.heap.size ≤ (grow (putRow (Value.int .i64) (Sort.ahead w n) b 0 ys.toArray) os).heap.size ∧ SameOut w (grow (putRow (Value.int .i64) (Sort.ahead w n) b 0 ys.toArray) os) := by
  have hbl : b < w.heap.size := (Array.getElem?_eq_some_iff.1 hb).1
  have hheap : ∀ c : Nat, c < w.heap.size → (grow (putRow (Value.int .i64) (Sort.ahead w n) b 0 ys.toArray) os).heap[c]? = if b = c then w.heap[c]?.map (onCells (putCells (Value.int .i64) 0 ys.toArray)) else w.heap[c]? := by
    intro c hc
    rw [heap_grow_old _ _ (by simpa using hc)]
    simp only [putRow, mapBlock, Sort.heap_ahead, Array.getElem?_modify]
  refine ⟨putCells (Value.int .i64) 0 ys.toArray cs, by simp [putCells], ?_, ?_, ?_, ?_, ⟨rfl, rfl, rfl⟩⟩
  · intro i hi
    have hi' : i < ys.length := by simpa using hi
    have hi2 : i < cs.size := by omega
    have e1 : (putCells (Value.int .i64) 0 ys.toArray cs).toList.getD i Go.undef = .int .i64 ys[i] := by
      rw [List.getD_eq_getElem?_getD, Array.getElem?_toList]
      simp [putCells, hi2, hi']
    rw [e1, List.getElem_map]
    exact .val _ rfl
  · have hs : (putCells (Value.int .i64) 0 ys.toArray cs).size = cs.size := by simp [putCells]
    rw [hheap b hbl, if_pos rfl, hb]
    show some (Obj.cells (putCells (Value.int .i64) 0 ys.toArray cs) e.1 (frOf e cs.size)) = some (Obj.cells (putCells (Value.int .i64) 0 ys.toArray cs) e.1 (frOf e (putCells (Value.int .i64) 0 ys.toArray cs).size))
    rw [hs]
  · intro c hcb hc
    rw [hheap c hc, if_neg (Ne.symm hcb)]
  · simp
theorem FnM.sortRow {P : Program} {f : FuncId} (hE : Enters P f) (g : List Int → List Int) (hg : ∀ zs, (g zs).length = zs.length)
    (hs : ∀ (blk cap : Nat) (zs : List Int) (w : World), Holds (Value.int .i64) w blk 0 zs.toArray → blk < w.heap.size → zs.length < 4611686018427387904 →
      Calls P f #[.slice (some ⟨blk, 0, none⟩) zs.length cap] w fun e w' => e = .returned (.tuple #[]) ∧ ∃ n os, w' = grow (putRow (Value.int .i64) (Sort.ahead w n) blk 0 (g zs).toArray) os)
    (h0 : ∀ (a : Option Addr) (w : World), Calls P f #[.slice a 0 0] w fun e w' => e = .returned (.tuple #[]) ∧ w' = w)
    (v : Nat) (zs : List Int) (hz : zs.length ≤ 1048576) :
    FnM P f [.row v ⟨1, false⟩ true (zs.map fun n => .val (.int .i64 n))] [.ref 1000000000 v 0 zs.length] (fun r io => r = .tup [] ∧ io = [.row v ⟨1, false⟩ true ((g zs).map fun n => .val (.int .i64 n))]) := by
  have := FnM.row (P := P) (f := f) v (zs.map fun n => AV.val (.int .i64 n)) ((g zs).map fun n => AV.val (.int .i64 n)) (by simp [hg])
    (flatInts zs) (by intro i hi; simp [fits]) hE ?_ ?_
  · simpa using this
  · intro w b cap cs e hb hcs hcap hrd
    have h4 : (zs.map fun n => AV.val (.int .i64 n)).length = zs.length := List.length_map _
    have h1 := hs b cap zs w (holds_rd hb (by omega) hrd) (Array.getElem?_eq_some_iff.1 hb).1 (by omega)
    rw [List.length_map]
    refine h1.mono ?_
    rintro e' w' ⟨rfl, n, os, rfl⟩
    exact ⟨rfl, put_facts hb (by rw [hg]; omega)⟩
  · intro hx a w
    refine (h0 a w).mono ?_
    rintro e' w' ⟨rfl, rfl⟩
    exact ⟨rfl, Grown.refl _⟩

section
variable {P : Program} {m : Mem}
/-- A call that turns a row of ours and hands back its beginning. -/
theorem sCallIo_row {f : FuncId} {l ver j : Nat} {xs ys : List AV} {k : AV → Mem → Prop} (hE : Enters P f) (hlk : lookB m l = some (.row ver ⟨1, false⟩ true xs)) (hflat : isFlatL xs = true) (hlen : ys.length = xs.length) (hj : j ≤ xs.length)
    (hfy : ∀ i (h : i < ys.length), fits ⟨1, false⟩ ys[i])
    (hc : ∀ (w : World) (b cap : Nat) (cs : Array Value) (e : El), w.heap[b]? = some (celO cs e) → cs.size = cap → xs.length ≤ cap → (∀ i (h : i < xs.length), Rd w (fun _ => False) xs[i] (cs.toList.getD i Go.undef)) →
      Calls P f #[.slice (some ⟨b, 0, none⟩) xs.length cap] w fun e' w' => e' = .returned (.slice (some ⟨b, 0, none⟩) j cap) ∧ ∃ cs' : Array Value, cs'.size = cs.size ∧ (∀ i (h : i < ys.length), Rd w' (fun _ => False) ys[i] (cs'.toList.getD i Go.undef)) ∧
        w'.heap[b]? = some (celO cs' e) ∧ (∀ c : Nat, c ≠ b → c < w.heap.size → w'.heap[c]? = w.heap[c]?) ∧ w.heap.size ≤ w'.heap.size ∧ SameOut w w')
    (h0 : xs = [] → ∀ (a : Option Addr) (w : World), Calls P f #[.slice a 0 0] w fun e' w' => e' = .returned (.slice a 0 0) ∧ Grown w w')
    (hk : k (.ref l (ver + 1) 0 j) ((l, .row (ver + 1) ⟨1, false⟩ true ys) :: m)) : sCallIo P f [.ref l ver 0 xs.length] m k := by
  refine fun B N φ fp S ts a w vs hR hsz hx hxl => ⟨hE, ?_⟩
  obtain ⟨u, rfl⟩ : ∃ u, vs = #[u] := by
    have : vs.size = 1 := hsz
    exact ⟨vs[0], by apply Array.ext <;> simp_all⟩
  have hx0 : RV w S φ (.ref l ver 0 xs.length) u := hx 0 (by simp)
  obtain ⟨r1, r2⟩ := rv_ref hx0
  have hver : ∀ v', known m l v' → v' < ver + 1 := by
    rintro v' ⟨k', h1, h2⟩
    rw [hlk] at h1; cases h1; exact Nat.lt_succ_of_le h2
  have nilCase : xs = [] → (∃ a', u = .slice a' 0 0) → Calls P f #[u] w fun e' w' => ∃ v, e' = .returned v ∧ Gives B N a (fun x ts' m' => ts' = ts ∧ k x m') v w' := by
    rintro h1 ⟨a', rfl⟩
    have hy : ys = [] := List.eq_nil_of_length_eq_zero (by rw [hlen, h1]; rfl)
    have hj0 : j = 0 := by rw [h1] at hj; simpa using hj
    refine (h0 h1 a' w).mono ?_
    rintro e' w' ⟨rfl, hg⟩
    refine ⟨_, rfl, (hR.grown hg).nilNext hver (nv := ver + 1) (sh := ⟨1, false⟩) (deep := true) ⟨rfl, ?_⟩⟩
    rw [hy, hj0] at hk; exact hk
  rcases hR.mSome l _ hlk with ⟨hφ, hxs, _⟩ | ⟨b, cap, hφ, hbm, _, hown⟩
  · exact nilCase hxs (r2 hφ).2
  · simp only [if_true] at hown
    obtain ⟨ad, cap', rfl, hn, hcp⟩ := r1 b _ hφ
    rcases hcp with rfl | ⟨rfl, cs0, e0, hh0, hs0⟩
    · have hx1 : xs = [] := List.eq_nil_of_length_eq_zero (by omega)
      exact nilCase hx1 ⟨ad, by rw [hx1]; rfl⟩
    · rcases own_arr hown with ⟨hx1, hf0, _⟩ | ⟨b', cap2, cs, e, fss, q1, hgf, hheap, hcs, hcap, hmx, hff, hfl, hvv⟩
      · rw [hf0] at hbm; cases hbm
      · simp only [Value.slice.injEq, Option.some.injEq, Addr.mk.injEq] at q1
        obtain ⟨⟨rfl, _⟩, _, rfl⟩ := q1
        rw [hheap] at hh0
        simp only [Option.some.injEq, Obj.cells.injEq] at hh0
        obtain ⟨rfl, -, -⟩ := hh0
        simp only [Nat.mul_one, Nat.zero_add] at hs0 hcs
        have hfe : ∀ i (h : i < xs.length), Rd w (fun _ => False) xs[i] (cs.toList.getD i Go.undef) ∧ fss.getD i [] = [] := by
          intro i hi
          have := flat_rd (S' := fun _ => False) (hvv i hi) (isFlatL_get hflat i hi)
          rw [elemV_cell, Nat.mul_one] at this
          exact this
        have hfs : fss.flatten = [] := List.flatten_eq_nil_iff.2 fun l hl => by
          obtain ⟨i, hi, rfl⟩ := List.getElem_of_mem hl
          have := (hfe i (hfl ▸ hi)).2
          rwa [List.getD_eq_getElem?_getD, List.getElem?_eq_getElem hi] at this
        rw [hfs] at hgf
        rw [show (0 : Nat) * (1 : Nat) = 0 from rfl]
        refine (hc w b cap' cs e hheap hs0 hn fun i hi => (hfe i hi).1).mono ?_
        rintro e' w' ⟨rfl, cs', hs', hr', hb', hoth, hsize, hout⟩
        have hbl : b < w.heap.size := (Array.getElem?_eq_some_iff.1 hheap).1
        have hszs : Szs w w' := by
          intro c cs2 e2 hc2
          by_cases ec : c = b
          · subst ec; obtain rfl := celO_inj (hheap.symm.trans hc2); exact ⟨cs', e, hb', hs'⟩
          · exact ⟨cs2, e2, by rw [hoth c ec (Array.getElem?_eq_some_iff.1 hc2).1]; exact hc2, rfl⟩
        refine ⟨_, rfl, hR.rowNext (b := b) (cap := cap) (n := j) (nv := ver + 1) (sh := ⟨1, false⟩) (deep := true) (xs := ys) (fs := [b]) hsize hout hszs hoth
          (fun l b sh ver cs e _ hb => hszs b cs e hb) (.inl hbm) hver (fun c hc => .inl (by simpa using hc)) (by simp) (fun h => (by cases h)) (by simp) ?_ ?_ ⟨rfl, hk⟩⟩
        · have e2 : [b] = b :: (List.replicate ys.length ([] : List Nat)).flatten := by
            congr 1
            exact (List.flatten_eq_nil_iff.2 fun l hl => (List.mem_replicate.1 hl).2).symm
          show Own w' (fun _ => False) _ _ [b]
          rw [e2]
          refine .arr ⟨1, false⟩ ys b cap cs' e _ hb' (by rw [hs', hcs]; simp) (by omega) hmx hfy (by simp) fun i hi => ?_
          have e3 : (List.replicate ys.length ([] : List Nat)).getD i [] = [] := by simp [List.getD_eq_getElem?_getD, hi]
          rw [e3, elemV_cell, Nat.mul_one]
          exact .rd _ _ (hr' i hi)
        · exact ⟨some ⟨b, 0, none⟩, cap', rfl, by omega, .inr ⟨rfl, cs', e, hb', by rw [hs', hs0]; simp⟩⟩
/-- The same, of numbers. -/
theorem sCallIo_ints {f : FuncId} {l ver n : Nat} {zs ys : List Int} {k : AV → Mem → Prop} (j : Nat) (hE : Enters P f) (hlk : lookB m l = some (.row ver ⟨1, false⟩ true (zs.map fun n => .val (.int .i64 n)))) (hn : n = zs.length) (hlen : ys.length = zs.length) (hj : j ≤ zs.length)
    (hz : zs.length ≤ 1048576)
    (hc : ∀ (blk cap : Nat) (w : World), Holds (Value.int .i64) w blk 0 zs.toArray → zs.length ≤ cap →
      Calls P f #[.slice (some ⟨blk, 0, none⟩) zs.length cap] w fun e' w' => e' = .returned (.slice (some ⟨blk, 0, none⟩) j cap) ∧ ∃ q, w' = putRow (Value.int .i64) (Sort.ahead w q) blk 0 ys.toArray)
    (h0 : ∀ (a : Option Addr) (w : World), Calls P f #[.slice a 0 0] w fun e' w' => e' = .returned (.slice a 0 0) ∧ w' = w)
    (hk : k (.ref l (ver + 1) 0 j) ((l, .row (ver + 1) ⟨1, false⟩ true (ys.map fun n => .val (.int .i64 n))) :: m)) : sCallIo P f [.ref l ver 0 n] m k := by
  have h4 : (zs.map fun n => AV.val (.int .i64 n)).length = zs.length := List.length_map _
  rw [hn, ← h4]
  refine sCallIo_row hE hlk (flatInts zs) (ys := ys.map fun n => .val (.int .i64 n)) (j := j) (by simp [hlen]) (by omega) (by intro i hi; simp [fits]) ?_ ?_ hk
  · intro w b cap cs e hb hcs hcap hrd
    have h1 := hc b cap w (holds_rd hb (by omega) hrd) (by omega)
    rw [h4]
    refine h1.mono ?_
    rintro e' w' ⟨rfl, n, rfl⟩
    refine ⟨rfl, ?_⟩
    have := put_facts (os := #[]) (n := n) (ys := ys) hb (by omega)
    simpa only [grow_empty] using this
  · intro hx a w
    refine (h0 a w).mono ?_
    rintro e' w' ⟨rfl, rfl⟩
    exact ⟨rfl, Grown.refl _⟩
theorem sCallX_ints {f : FuncId} {d l ver n : Nat} {zs ys : List Int} {xt : List AV} {k : AV → Mem → Prop} {q : Pack k} (j : Nat) (hE : Enters P f) (hlk : lookB m l = some (.row ver ⟨1, false⟩ true (zs.map fun n => .val (.int .i64 n)))) (hn : n = zs.length) (hlen : ys.length = zs.length) (hj : j ≤ zs.length)
    (hz : zs.length ≤ 1048576)
    (hc : ∀ (blk cap : Nat) (w : World), Holds (Value.int .i64) w blk 0 zs.toArray → zs.length ≤ cap →
      Calls P f #[.slice (some ⟨blk, 0, none⟩) zs.length cap] w fun e' w' => e' = .returned (.slice (some ⟨blk, 0, none⟩) j cap) ∧ ∃ q, w' = putRow (Value.int .i64) (Sort.ahead w q) blk 0 ys.toArray)
    (h0 : ∀ (a : Option Addr) (w : World), Calls P f #[.slice a 0 0] w fun e' w' => e' = .returned (.slice a 0 0) ∧ w' = w)
    (hk : k (.ref l (ver + 1) 0 j) ((l, .row (ver + 1) ⟨1, false⟩ true (ys.map fun n => .val (.int .i64 n))) :: m)) : sCallX P f d [.ref l ver 0 n] xt m k q :=
  .inr (.inr ⟨_, [_], hk, fun m' a _ k' hk' => sCallIo_ints j hE ((a l ⟨_, List.mem_singleton.2 rfl, NL.ref _ _ _ _⟩).trans hlk) hn hlen hj hz hc h0 hk'⟩)
end
end Go.Vc


/-
  DERIVED: THE SHELF's CONTRACTS AT THIS DUMP, IN PLAIN WORDS (tools/lay-plain.mjs out of 'YtgdjpnahpanaoaaGreatLay0.lean', which tools/lay-shelf.mjs wrote): THE SAME DECLARATIONS UNDER THE SAME NAMES: 'import', 'namespace', 'open', 'def', 'theorem' AND NOTHING ELSE: no command of the shelf's: FOR A HAND-IN. Each laying: the table of numbers ('.._ren') and one theorem, a field a fact of the dump's own or the kernel's comparison; each contract: ONE APPLICATION.
-/
set_option linter.unusedVariables false
set_option linter.unusedSimpArgs false
set_option linter.unnecessarySimpa false
namespace Go.Proofs
open Go.Shelf
def Tryz.laySort_ren : Go.Shelf.Ren := ⟨fun | 53 => 97 | 64 => 120 | 63 => 119 | 78 => 150 | 79 => 151 | 70 => 141 | 71 => 142 | 72 => 143 | 73 => 144 | 74 => 145 | 75 => 146 | 59 => 147 | 76 => 148 | 77 => 149 | 88 => 163 | 89 => 164 | 90 => 165 | 91 => 166 | 92 => 167 | 68 => 122 | 96 => 174 | n => n, fun | 22 => 31 | 23 => 2 | 3 => 3 | 51 => 103 | 0 => 0 | 67 => 151 | 69 => 153 | 4 => 4 | 61 => 144 | 60 => 143 | 44 => 77 | 5 => 5 | 9 => 9 | 75 => 161 | 79 => 165 | 83 => 177 | 84 => 178 | n => n, fun | n => n⟩
theorem Tryz.laySort : Go.Proofs.SlLaysN.n53 Tryz.prog Tryz.laySort_ren := {
  mixed := by kernel_rfl
  f53 := ⟨Tryz.f97.name, by decide, Tryz.func97.trans (congrArg some (by kernel_rfl))⟩
  f59 := ⟨Tryz.f147.name, by decide, Tryz.func147.trans (congrArg some (by kernel_rfl))⟩
  f63 := ⟨Tryz.f119.name, by decide, Tryz.func119.trans (congrArg some (by kernel_rfl))⟩
  f64 := Tryz.func120.trans (congrArg some (by kernel_rfl))
  f68 := ⟨Tryz.f122.name, by decide, Tryz.func122.trans (congrArg some (by kernel_rfl))⟩
  f70 := ⟨Tryz.f141.name, by decide, Tryz.func141.trans (congrArg some (by kernel_rfl))⟩
  f71 := ⟨Tryz.f142.name, by decide, Tryz.func142.trans (congrArg some (by kernel_rfl))⟩
  f72 := ⟨Tryz.f143.name, by decide, Tryz.func143.trans (congrArg some (by kernel_rfl))⟩
  f73 := ⟨Tryz.f144.name, by decide, Tryz.func144.trans (congrArg some (by kernel_rfl))⟩
  f74 := ⟨Tryz.f145.name, by decide, Tryz.func145.trans (congrArg some (by kernel_rfl))⟩
  f75 := ⟨Tryz.f146.name, by decide, Tryz.func146.trans (congrArg some (by kernel_rfl))⟩
  f76 := ⟨Tryz.f148.name, by decide, Tryz.func148.trans (congrArg some (by kernel_rfl))⟩
  f77 := ⟨Tryz.f149.name, by decide, Tryz.func149.trans (congrArg some (by kernel_rfl))⟩
  f78 := Tryz.func150.trans (congrArg some (by kernel_rfl))
  f79 := Tryz.func151.trans (congrArg some (by kernel_rfl))
  f88 := ⟨Tryz.f163.name, by decide, Tryz.func163.trans (congrArg some (by kernel_rfl))⟩
  f89 := Tryz.func164.trans (congrArg some (by kernel_rfl))
  f90 := Tryz.func165.trans (congrArg some (by kernel_rfl))
  f91 := ⟨Tryz.f166.name, by decide, Tryz.func166.trans (congrArg some (by kernel_rfl))⟩
  f92 := ⟨Tryz.f167.name, by decide, Tryz.func167.trans (congrArg some (by kernel_rfl))⟩
  f96 := ⟨Tryz.f174.name, by decide, Tryz.func174.trans (congrArg some (by kernel_rfl))⟩
  t0 := Tryz.underlying0
  a0 := Tryz.isAgg0
  z0 := Tryz.sizeOf0
  v0 := Tryz.zeroValue0
  t3 := Tryz.underlying3
  a3 := Tryz.isAgg3
  z3 := Tryz.sizeOf3
  v3 := Tryz.zeroValue3
  t4 := Tryz.underlying4
  a4 := Tryz.isAgg4
  z4 := Tryz.sizeOf4
  v4 := Tryz.zeroValue4
  t5 := Tryz.underlying5
  a5 := Tryz.isAgg5
  z5 := Tryz.sizeOf5
  v5 := Tryz.zeroValue5
  t9 := Tryz.underlying9
  a9 := Tryz.isAgg9
  z9 := Tryz.sizeOf9
  v9 := Tryz.zeroValue9
  t22 := Tryz.underlying31
  a22 := Tryz.isAgg31
  z22 := Tryz.sizeOf31
  v22 := Tryz.zeroValue31
  t23 := Tryz.underlying2
  a23 := Tryz.isAgg2
  z23 := Tryz.sizeOf2
  v23 := Tryz.zeroValue2
  t44 := Tryz.underlying77
  a44 := Tryz.isAgg77
  z44 := Tryz.sizeOf77
  v44 := Tryz.zeroValue77
  t51 := Tryz.underlying103
  a51 := Tryz.isAgg103
  z51 := Tryz.sizeOf103
  v51 := Tryz.zeroValue103
  t60 := Tryz.underlying143
  a60 := Tryz.isAgg143
  z60 := Tryz.sizeOf143
  v60 := Tryz.zeroValue143
  t61 := Tryz.underlying144
  a61 := Tryz.isAgg144
  z61 := Tryz.sizeOf144
  v61 := Tryz.zeroValue144
  t67 := Tryz.underlying151
  a67 := Tryz.isAgg151
  z67 := Tryz.sizeOf151
  v67 := Tryz.zeroValue151
  t69 := Tryz.underlying153
  a69 := Tryz.isAgg153
  z69 := Tryz.sizeOf153
  v69 := Tryz.zeroValue153
  t75 := Tryz.underlying161
  a75 := Tryz.isAgg161
  z75 := Tryz.sizeOf161
  v75 := Tryz.zeroValue161
  t79 := Tryz.underlying165
  a79 := Tryz.isAgg165
  z79 := Tryz.sizeOf165
  v79 := Tryz.zeroValue165
  t83 := Tryz.underlying177
  a83 := Tryz.isAgg177
  z83 := Tryz.sizeOf177
  v83 := Tryz.zeroValue177
  t84 := Tryz.underlying178
  a84 := Tryz.isAgg178
  z84 := Tryz.sizeOf178
  v84 := Tryz.zeroValue178 }
def Tryz.layCompact_ren : Go.Shelf.Ren := ⟨fun | 43 => 98 | n => n, fun | 22 => 31 | 23 => 2 | 3 => 3 | 4 => 4 | 0 => 0 | n => n, fun | n => n⟩
theorem Tryz.layCompact : Go.Proofs.SlLaysN.n43 Tryz.prog Tryz.layCompact_ren := {
  mixed := by kernel_rfl
  f43 := ⟨Tryz.f98.name, by decide, Tryz.func98.trans (congrArg some (by kernel_rfl))⟩
  t0 := Tryz.underlying0
  a0 := Tryz.isAgg0
  z0 := Tryz.sizeOf0
  v0 := Tryz.zeroValue0
  t3 := Tryz.underlying3
  a3 := Tryz.isAgg3
  z3 := Tryz.sizeOf3
  v3 := Tryz.zeroValue3
  t4 := Tryz.underlying4
  a4 := Tryz.isAgg4
  z4 := Tryz.sizeOf4
  v4 := Tryz.zeroValue4
  t22 := Tryz.underlying31
  a22 := Tryz.isAgg31
  z22 := Tryz.sizeOf31
  v22 := Tryz.zeroValue31
  t23 := Tryz.underlying2
  a23 := Tryz.isAgg2
  z23 := Tryz.sizeOf2
  v23 := Tryz.zeroValue2
  i23 := by kernel_rfl }
end Go.Proofs


/-
  How plain data are written as abstract values; small facts on lists.
-/
set_option linter.unusedVariables false
set_option linter.unusedSimpArgs false
set_option linter.unnecessarySimpa false
namespace Go.Vc
abbrev eI (n : Int) : AV := .val (.int .i64 n)
abbrev eB (b : Bool) : AV := .val (.bool b)
abbrev eIs (xs : List Int) : AV := .arr ⟨1, false⟩ (xs.map eI)
theorem all_take {α : Type} (p : α → Bool) (xs : List α) (i : Nat) (h : i < xs.length) : (xs.take (i + 1)).all p = ((xs.take i).all p && p xs[i]) := by
  rw [List.take_succ_eq_append_getElem h, List.all_append]; simp
theorem all_no {α : Type} {p : α → Bool} {xs : List α} {i : Nat} (h : i < xs.length) (hp : p xs[i] = false) : xs.all p = false := by
  rw [List.all_eq_false]; exact ⟨xs[i], List.getElem_mem h, by simp [hp]⟩
/-- a row of which the first i cells are filled -/
def fill {α β : Type} (f : α → β) (z : β) (xs : List α) (i : Nat) : List β := (xs.take i).map f ++ List.replicate (xs.length - i) z
theorem fill_zero {α β : Type} (f : α → β) (z : β) (xs : List α) : fill f z xs 0 = List.replicate xs.length z := by simp [fill]
theorem fill_all {α β : Type} (f : α → β) (z : β) (xs : List α) : fill f z xs xs.length = xs.map f := by simp [fill]
theorem fill_len {α β : Type} (f : α → β) (z : β) (xs : List α) (i : Nat) (h : i ≤ xs.length) : (fill f z xs i).length = xs.length := by simp [fill]; omega
theorem fill_get {α β : Type} (f : α → β) (z : β) (xs : List α) (i : Nat) (h : i < xs.length) : (fill f z xs i)[i]? = some z := by
  have hl : ((xs.take i).map f).length = i := by simp; omega
  rw [fill, List.getElem?_append_right (by omega), hl, Nat.sub_self, List.getElem?_replicate, if_pos (by omega)]
theorem fill_set {α β : Type} (f : α → β) (z : β) (xs : List α) (i : Nat) (h : i < xs.length) : (fill f z xs i).set i (f xs[i]) = fill f z xs (i + 1) := by
  have hl : ((xs.take i).map f).length = i := by simp; omega
  rw [fill, fill, List.take_succ_eq_append_getElem h, List.map_append, List.set_append_right _ _ (by omega), hl, Nat.sub_self, show xs.length - i = (xs.length - (i + 1)) + 1 by omega, List.replicate_succ]
  simp
theorem take_map_len {α β : Type} (f : α → β) (xs : List α) : (xs.map f).take xs.length = xs.map f := by rw [← List.map_take, List.take_length]
attribute [go_sem] take_map_len
theorem lt_len {i n : Nat} (h : i < n) : decide ((i : Int) < (n : Int)) = true := decide_eq_true (by omega)
theorem nlt_len (n : Nat) : decide ((n : Int) < (n : Int)) = false := decide_eq_false (by omega)
theorem get_some {α : Type} {xs : List α} {i : Nat} (h : i < xs.length) : xs[i]? = some xs[i] := List.getElem?_eq_getElem h
/-- a row of which the first i cells hold f 0, f 1, .. -/
def mk1 {β : Type} (f : Nat → β) (zs : List β) (i : Nat) : List β := (List.range i).map f ++ zs.drop i
theorem mk1_zero {β : Type} (f : Nat → β) (zs : List β) : mk1 f zs 0 = zs := by simp [mk1]
theorem mk1_all {β : Type} (f : Nat → β) (zs : List β) (n : Nat) (h : zs.length ≤ n) : mk1 f zs n = (List.range n).map f := by simp [mk1, List.drop_eq_nil_of_le h]
theorem mk1_len {β : Type} (f : Nat → β) (zs : List β) (i : Nat) (h : i ≤ zs.length) : (mk1 f zs i).length = zs.length := by simp [mk1]; omega
theorem mk1_get {β : Type} (f : Nat → β) (zs : List β) (i : Nat) (h : i < zs.length) : (mk1 f zs i)[i]? = some zs[i] := by
  rw [mk1, List.getElem?_append_right (by simp)]; simp [h]
theorem mk1_set {β : Type} (f : Nat → β) (zs : List β) (i : Nat) (h : i < zs.length) : (mk1 f zs i).set i (f i) = mk1 f zs (i + 1) := by
  rw [mk1, mk1, List.set_append_right _ _ (by simp), List.range_succ, List.map_append]
  simp only [List.length_map, List.length_range, Nat.sub_self, List.map_cons, List.map_nil, List.append_assoc]
  rw [List.drop_eq_getElem_cons h]; rfl
theorem mk1_set2 {β : Type} (f : Nat → β) (zs : List β) (i : Nat) (x : β) (h : i < zs.length) : ((mk1 f zs i).set i x)[i]? = some x := by
  rw [List.getElem?_set]; simp [mk1_len f zs i (by omega), h]
theorem isFlatL_map {α : Type} {f : α → AV} (xs : List α) (h : ∀ x, isFlat (f x) = true) : isFlatL (xs.map f) = true := by
  induction xs with
  | nil => rfl
  | cons x r ih => rw [List.map_cons, isFlatL_cons, h, ih]; rfl
theorem isFlatL_append (xs ys : List AV) : isFlatL (xs ++ ys) = (isFlatL xs && isFlatL ys) := by
  induction xs with
  | nil => simp [isFlatL]
  | cons x r ih => rw [List.cons_append, isFlatL_cons, isFlatL_cons, ih, Bool.and_assoc]
theorem isFlatL_take (xs : List AV) (n : Nat) (h : isFlatL xs = true) : isFlatL (xs.take n) = true := by
  induction xs generalizing n with
  | nil => simp [isFlatL]
  | cons x r ih =>
    cases n with
    | zero => rfl
    | succ n =>
      simp only [isFlatL_cons, Bool.and_eq_true] at h
      rw [List.take_succ_cons, isFlatL_cons, h.1, ih n h.2]; rfl
theorem isFlatL_rep (n : Nat) (z : AV) (h : isFlat z = true) : isFlatL (List.replicate n z) = true := by
  induction n with
  | zero => rfl
  | succ n ih => rw [List.replicate_succ, isFlatL_cons, h, ih]; rfl
theorem rep0 {α : Type} (z : α) : List.replicate 0 z = [] := rfl
theorem rep1 {α : Type} (z : α) : List.replicate 1 z = [z] := rfl
theorem rep2 {α : Type} (z : α) : List.replicate 2 z = [z, z] := rfl
theorem rep3 {α : Type} (z : α) : List.replicate 3 z = [z, z, z] := rfl
theorem rep4 {α : Type} (z : α) : List.replicate 4 z = [z, z, z, z] := rfl
theorem rep5 {α : Type} (z : α) : List.replicate 5 z = [z, z, z, z, z] := rfl
theorem rep6 {α : Type} (z : α) : List.replicate 6 z = [z, z, z, z, z, z] := rfl
theorem rep7 {α : Type} (z : α) : List.replicate 7 z = [z, z, z, z, z, z, z] := rfl
theorem rep8 {α : Type} (z : α) : List.replicate 8 z = [z, z, z, z, z, z, z, z] := rfl
theorem rep9 {α : Type} (z : α) : List.replicate 9 z = [z, z, z, z, z, z, z, z, z] := rfl
theorem rep10 {α : Type} (z : α) : List.replicate 10 z = [z, z, z, z, z, z, z, z, z, z] := rfl
theorem rep11 {α : Type} (z : α) : List.replicate 11 z = [z, z, z, z, z, z, z, z, z, z, z] := rfl
theorem rep12 {α : Type} (z : α) : List.replicate 12 z = [z, z, z, z, z, z, z, z, z, z, z, z] := rfl
attribute [go_sem] isFlatL_map isFlatL_append isFlatL_take isFlatL_rep List.take_take Nat.min_self List.map_take List.append_nil List.length_append List.length_take rep0 rep1 rep2 rep3 rep4 rep5 rep6 rep7 rep8 rep9 rep10 rep11 rep12
theorem ioL_eq : ioL = 1000000000 := rfl
attribute [go_sem] ne_eq not_false_eq_true ioL_eq decide_true decide_false Bool.not_true Bool.not_false bne_self_eq_false
theorem take_set_len {α β : Type} (f : α → β) (xs : List α) (i : Nat) (y : β) : ((xs.map f).set i y).take xs.length = (xs.map f).set i y := List.take_of_length_le (by simp)
attribute [go_sem] take_set_len List.length_set
theorem eq_no {α : Type} [DecidableEq α] {xs ys : List α} {i : Nat} (hi : i < xs.length) (hy : i < ys.length) (h : xs[i] ≠ ys[i]) : decide (xs = ys) = false :=
  decide_eq_false fun e => h (by subst e; rfl)
theorem eq_yes {α : Type} {xs ys : List α} {i : Nat} (hi : i < xs.length) (hy : i < ys.length) (hI : xs.take i = ys.take i) (h : xs[i] = ys[i]) : xs.take (i + 1) = ys.take (i + 1) := by
  rw [List.take_succ_eq_append_getElem hi, List.take_succ_eq_append_getElem hy, hI, h]
end Go.Vc


/-
  What the program's types are, for the layer Vc.
-/
set_option linter.unusedVariables false
set_option linter.unusedSimpArgs false
set_option linter.unnecessarySimpa false
namespace Go.Vc
open Go.Proofs

theorem ti0 : tiOf Tryz.prog 0 = some ⟨false, 1, 0, .undef, [], 0, .other⟩ := by kernel_rfl
theorem ti1 : tiOf Tryz.prog 1 = some ⟨false, 1, 8, .val .nilFunc, [], 0, .other⟩ := by kernel_rfl
theorem ti2 : tiOf Tryz.prog 2 = some ⟨false, 1, 8, .val (.int .i64 0), [], 0, .int .i64⟩ := by kernel_rfl
theorem ti3 : tiOf Tryz.prog 3 = some ⟨false, 1, 8, .val (.int .i64 0), [], 0, .int .i64⟩ := by kernel_rfl
theorem ti4 : tiOf Tryz.prog 4 = some ⟨false, 1, 1, .val (.bool false), [], 0, .bool⟩ := by kernel_rfl
theorem ti5 : tiOf Tryz.prog 5 = some ⟨false, 1, 1, .val (.int .u8 0), [], 0, .int .u8⟩ := by kernel_rfl
theorem ti6 : tiOf Tryz.prog 6 = some ⟨false, 1, 1, .val (.int .u8 0), [], 0, .int .u8⟩ := by kernel_rfl
theorem ti7 : tiOf Tryz.prog 7 = some ⟨true, 4, 24, .agg [.val (.int .i64 0), .val (.int .i64 0), .val (.bool false), .val (.int .u8 0)], [(0, 1, false), (1, 1, false), (2, 1, false), (3, 1, false)], 0, .struct⟩ := by kernel_rfl
theorem ti8 : tiOf Tryz.prog 8 = some ⟨true, 4, 24, .agg [.val (.int .i64 0), .val (.int .i64 0), .val (.bool false), .val (.int .u8 0)], [(0, 1, false), (1, 1, false), (2, 1, false), (3, 1, false)], 0, .struct⟩ := by kernel_rfl
theorem ti9 : tiOf Tryz.prog 9 = some ⟨false, 1, 16, .val (.string ⟨#[]⟩), [], 0, .string⟩ := by kernel_rfl
theorem ti10 : tiOf Tryz.prog 10 = some ⟨false, 1, 16, .val (.string ⟨#[]⟩), [], 0, .string⟩ := by kernel_rfl
theorem ti11 : tiOf Tryz.prog 11 = some ⟨false, 1, 16, .val (.string ⟨#[]⟩), [], 0, .string⟩ := by kernel_rfl
theorem ti12 : tiOf Tryz.prog 12 = some ⟨false, 1, 8, .val (.int .u64 0), [], 0, .int .u64⟩ := by kernel_rfl
theorem ti13 : tiOf Tryz.prog 13 = some ⟨true, 2, 24, .agg [.val (.string ⟨#[]⟩), .val (.int .u64 0)], [(0, 1, false), (1, 1, false)], 0, .struct⟩ := by kernel_rfl
theorem ti14 : tiOf Tryz.prog 14 = some ⟨true, 2, 24, .agg [.val (.string ⟨#[]⟩), .val (.int .u64 0)], [(0, 1, false), (1, 1, false)], 0, .struct⟩ := by kernel_rfl
theorem ti15 : tiOf Tryz.prog 15 = some ⟨false, 1, 8, .val (.pointer none), [], 0, .other⟩ := by kernel_rfl
theorem ti16 : tiOf Tryz.prog 16 = some ⟨false, 1, 8, .val (.pointer none), [], 0, .other⟩ := by kernel_rfl
theorem ti17 : tiOf Tryz.prog 17 = some ⟨false, 1, 8, .val (.pointer none), [], 0, .other⟩ := by kernel_rfl
theorem ti18 : tiOf Tryz.prog 18 = some ⟨true, 1, 8, .agg [.val (.pointer none)], [(0, 1, false)], 0, .struct⟩ := by kernel_rfl
theorem ti19 : tiOf Tryz.prog 19 = some ⟨true, 1, 8, .agg [.val (.pointer none)], [(0, 1, false)], 0, .struct⟩ := by kernel_rfl
theorem ti20 : tiOf Tryz.prog 20 = some ⟨false, 1, 16, .val .nilIface, [], 0, .iface⟩ := by kernel_rfl
theorem ti21 : tiOf Tryz.prog 21 = some ⟨false, 1, 4, .val (.int .i32 0), [], 0, .int .i32⟩ := by kernel_rfl
theorem ti22 : tiOf Tryz.prog 22 = some ⟨true, 5, 40, .agg [.val (.int .i64 0), .val (.int .i64 0), .val (.int .i64 0), .val (.int .i64 0), .val (.int .i64 0)], [(0, 1, false), (1, 1, false), (2, 1, false), (3, 1, false), (4, 1, false)], 0, .struct⟩ := by kernel_rfl
theorem ti23 : tiOf Tryz.prog 23 = some ⟨true, 5, 40, .agg [.val (.int .i64 0), .val (.int .i64 0), .val (.int .i64 0), .val (.int .i64 0), .val (.int .i64 0)], [(0, 1, false), (1, 1, false), (2, 1, false), (3, 1, false), (4, 1, false)], 0, .struct⟩ := by kernel_rfl
theorem ti24 : tiOf Tryz.prog 24 = some ⟨false, 1, 24, .val (.slice none 0 0), [], 31, .slice⟩ := by kernel_rfl
theorem ti25 : tiOf Tryz.prog 25 = some ⟨true, 6, 64, .agg [.val (.int .i64 0), .val (.int .i64 0), .val (.int .i64 0), .val (.int .i64 0), .val (.int .i64 0), .val (.slice none 0 0)], [(0, 5, true), (5, 1, false)], 0, .struct⟩ := by kernel_rfl
theorem ti26 : tiOf Tryz.prog 26 = some ⟨true, 6, 64, .agg [.val (.int .i64 0), .val (.int .i64 0), .val (.int .i64 0), .val (.int .i64 0), .val (.int .i64 0), .val (.slice none 0 0)], [(0, 5, true), (5, 1, false)], 0, .struct⟩ := by kernel_rfl
theorem ti27 : tiOf Tryz.prog 27 = some ⟨false, 1, 24, .val (.slice none 0 0), [], 71, .slice⟩ := by kernel_rfl
theorem ti28 : tiOf Tryz.prog 28 = some ⟨false, 1, 8, .val .nilFunc, [], 0, .other⟩ := by kernel_rfl
theorem ti29 : tiOf Tryz.prog 29 = some ⟨false, 1, 8, .val .nilFunc, [], 0, .other⟩ := by kernel_rfl
theorem ti30 : tiOf Tryz.prog 30 = some ⟨false, 1, 8, .val .nilFunc, [], 0, .other⟩ := by kernel_rfl
theorem ti31 : tiOf Tryz.prog 31 = some ⟨false, 1, 24, .val (.slice none 0 0), [], 2, .slice⟩ := by kernel_rfl
theorem ti32 : tiOf Tryz.prog 32 = some ⟨false, 1, 0, .undef, [], 0, .other⟩ := by kernel_rfl
theorem ti33 : tiOf Tryz.prog 33 = some ⟨false, 1, 8, .val .nilFunc, [], 0, .other⟩ := by kernel_rfl
theorem ti34 : tiOf Tryz.prog 34 = some ⟨true, 5, 40, .agg [.val (.int .i64 0), .val (.int .i64 0), .val (.int .i64 0), .val (.int .i64 0), .val (.int .i64 0)], [(0, 1, false), (1, 1, false), (2, 1, false), (3, 1, false), (4, 1, false)], 0, .struct⟩ := by kernel_rfl
theorem ti35 : tiOf Tryz.prog 35 = some ⟨true, 6, 64, .agg [.val (.int .i64 0), .val (.int .i64 0), .val (.int .i64 0), .val (.int .i64 0), .val (.int .i64 0), .val (.slice none 0 0)], [(0, 5, true), (5, 1, false)], 0, .struct⟩ := by kernel_rfl
theorem ti36 : tiOf Tryz.prog 36 = some ⟨true, 6, 64, .agg [.val (.int .i64 0), .val (.int .i64 0), .val (.int .i64 0), .val (.int .i64 0), .val (.int .i64 0), .val (.slice none 0 0)], [(0, 5, true), (5, 1, false)], 0, .struct⟩ := by kernel_rfl
theorem ti37 : tiOf Tryz.prog 37 = some ⟨false, 1, 8, .val .nilFunc, [], 0, .other⟩ := by kernel_rfl
theorem ti38 : tiOf Tryz.prog 38 = some ⟨false, 1, 8, .val .nilFunc, [], 0, .other⟩ := by kernel_rfl
theorem ti39 : tiOf Tryz.prog 39 = some ⟨false, 1, 24, .val (.slice none 0 0), [], 62, .slice⟩ := by kernel_rfl
theorem ti40 : tiOf Tryz.prog 40 = some ⟨false, 1, 8, .val .nilFunc, [], 0, .other⟩ := by kernel_rfl
theorem ti41 : tiOf Tryz.prog 41 = some ⟨false, 1, 8, .val .nilFunc, [], 0, .other⟩ := by kernel_rfl
theorem ti42 : tiOf Tryz.prog 42 = some ⟨false, 1, 8, .val .nilFunc, [], 0, .other⟩ := by kernel_rfl
theorem ti43 : tiOf Tryz.prog 43 = some ⟨false, 1, 8, .val .nilFunc, [], 0, .other⟩ := by kernel_rfl
theorem ti44 : tiOf Tryz.prog 44 = some ⟨false, 1, 8, .val .nilFunc, [], 0, .other⟩ := by kernel_rfl
theorem ti45 : tiOf Tryz.prog 45 = some ⟨false, 1, 8, .val .nilFunc, [], 0, .other⟩ := by kernel_rfl
theorem ti46 : tiOf Tryz.prog 46 = some ⟨false, 1, 8, .val .nilFunc, [], 0, .other⟩ := by kernel_rfl
theorem ti47 : tiOf Tryz.prog 47 = some ⟨false, 1, 8, .val .nilFunc, [], 0, .other⟩ := by kernel_rfl
theorem ti48 : tiOf Tryz.prog 48 = some ⟨false, 1, 8, .val .nilFunc, [], 0, .other⟩ := by kernel_rfl
theorem ti49 : tiOf Tryz.prog 49 = some ⟨false, 1, 0, .undef, [], 0, .other⟩ := by kernel_rfl
theorem ti50 : tiOf Tryz.prog 50 = some ⟨false, 1, 8, .val .nilFunc, [], 0, .other⟩ := by kernel_rfl
theorem ti51 : tiOf Tryz.prog 51 = some ⟨false, 1, 24, .val (.slice none 0 0), [], 5, .slice⟩ := by kernel_rfl
theorem ti52 : tiOf Tryz.prog 52 = some ⟨false, 1, 8, .val .nilFunc, [], 0, .other⟩ := by kernel_rfl
theorem ti53 : tiOf Tryz.prog 53 = some ⟨false, 1, 0, .undef, [], 0, .other⟩ := by kernel_rfl
theorem ti54 : tiOf Tryz.prog 54 = some ⟨false, 1, 8, .val .nilFunc, [], 0, .other⟩ := by kernel_rfl
theorem ti55 : tiOf Tryz.prog 55 = some ⟨false, 1, 0, .undef, [], 0, .other⟩ := by kernel_rfl
theorem ti56 : tiOf Tryz.prog 56 = some ⟨false, 1, 8, .val .nilFunc, [], 0, .other⟩ := by kernel_rfl
theorem ti57 : tiOf Tryz.prog 57 = some ⟨false, 1, 0, .undef, [], 0, .other⟩ := by kernel_rfl
theorem ti58 : tiOf Tryz.prog 58 = some ⟨false, 1, 8, .val .nilFunc, [], 0, .other⟩ := by kernel_rfl
theorem ti59 : tiOf Tryz.prog 59 = some ⟨false, 1, 8, .val .nilFunc, [], 0, .other⟩ := by kernel_rfl
theorem ti60 : tiOf Tryz.prog 60 = some ⟨false, 1, 8, .val .nilFunc, [], 0, .other⟩ := by kernel_rfl
theorem ti61 : tiOf Tryz.prog 61 = some ⟨true, 3, 24, .agg [.val (.bool false), .val (.int .i64 0), .val (.int .i64 0)], [(0, 1, false), (1, 1, false), (2, 1, false)], 0, .struct⟩ := by kernel_rfl
theorem ti62 : tiOf Tryz.prog 62 = some ⟨true, 3, 24, .agg [.val (.bool false), .val (.int .i64 0), .val (.int .i64 0)], [(0, 1, false), (1, 1, false), (2, 1, false)], 0, .struct⟩ := by kernel_rfl
theorem ti63 : tiOf Tryz.prog 63 = some ⟨false, 1, 8, .val .nilFunc, [], 0, .other⟩ := by kernel_rfl
theorem ti64 : tiOf Tryz.prog 64 = some ⟨true, 1, 24, .agg [.val (.slice none 0 0)], [(0, 1, false)], 0, .struct⟩ := by kernel_rfl
theorem ti65 : tiOf Tryz.prog 65 = some ⟨true, 1, 24, .agg [.val (.slice none 0 0)], [(0, 1, false)], 0, .struct⟩ := by kernel_rfl
theorem ti66 : tiOf Tryz.prog 66 = some ⟨false, 1, 8, .val .nilFunc, [], 0, .other⟩ := by kernel_rfl
theorem ti67 : tiOf Tryz.prog 67 = some ⟨false, 1, 24, .val (.slice none 0 0), [], 65, .slice⟩ := by kernel_rfl
theorem ti68 : tiOf Tryz.prog 68 = some ⟨false, 1, 8, .val .nilFunc, [], 0, .other⟩ := by kernel_rfl
theorem ti69 : tiOf Tryz.prog 69 = some ⟨false, 1, 8, .val .nilFunc, [], 0, .other⟩ := by kernel_rfl
theorem ti70 : tiOf Tryz.prog 70 = some ⟨false, 1, 8, .val .nilFunc, [], 0, .other⟩ := by kernel_rfl
theorem ti71 : tiOf Tryz.prog 71 = some ⟨true, 3, 24, .agg [.val (.bool false), .val (.int .i64 0), .val (.int .i64 0)], [(0, 1, false), (1, 1, false), (2, 1, false)], 0, .struct⟩ := by kernel_rfl
theorem ti72 : tiOf Tryz.prog 72 = some ⟨false, 1, 8, .val .nilFunc, [], 0, .other⟩ := by kernel_rfl
theorem ti73 : tiOf Tryz.prog 73 = some ⟨false, 1, 8, .val .nilFunc, [], 0, .other⟩ := by kernel_rfl
theorem ti74 : tiOf Tryz.prog 74 = some ⟨false, 1, 8, .val .nilFunc, [], 0, .other⟩ := by kernel_rfl
theorem ti75 : tiOf Tryz.prog 75 = some ⟨false, 1, 0, .undef, [], 0, .other⟩ := by kernel_rfl
theorem ti76 : tiOf Tryz.prog 76 = some ⟨false, 1, 8, .val .nilFunc, [], 0, .other⟩ := by kernel_rfl
theorem ti77 : tiOf Tryz.prog 77 = some ⟨false, 1, 0, .undef, [], 0, .other⟩ := by kernel_rfl
theorem ti78 : tiOf Tryz.prog 78 = some ⟨false, 1, 8, .val .nilFunc, [], 0, .other⟩ := by kernel_rfl
theorem ti79 : tiOf Tryz.prog 79 = some ⟨false, 1, 8, .val .nilFunc, [], 0, .other⟩ := by kernel_rfl
theorem ti80 : tiOf Tryz.prog 80 = some ⟨false, 1, 8, .val .nilFunc, [], 0, .other⟩ := by kernel_rfl
theorem ti81 : tiOf Tryz.prog 81 = some ⟨false, 1, 8, .val .nilFunc, [], 0, .other⟩ := by kernel_rfl
theorem ti82 : tiOf Tryz.prog 82 = some ⟨false, 1, 8, .val .nilFunc, [], 0, .other⟩ := by kernel_rfl
theorem ti83 : tiOf Tryz.prog 83 = some ⟨false, 1, 8, .val (.pointer none), [], 0, .other⟩ := by kernel_rfl
theorem ti84 : tiOf Tryz.prog 84 = some ⟨false, 1, 8, .val .nilFunc, [], 0, .other⟩ := by kernel_rfl
theorem ti85 : tiOf Tryz.prog 85 = some ⟨false, 1, 8, .val .nilFunc, [], 0, .other⟩ := by kernel_rfl
theorem ti86 : tiOf Tryz.prog 86 = some ⟨false, 1, 8, .val .nilFunc, [], 0, .other⟩ := by kernel_rfl
theorem ti87 : tiOf Tryz.prog 87 = some ⟨false, 1, 8, .val .nilFunc, [], 0, .other⟩ := by kernel_rfl
theorem ti88 : tiOf Tryz.prog 88 = some ⟨false, 1, 8, .val .nilFunc, [], 0, .other⟩ := by kernel_rfl
theorem ti89 : tiOf Tryz.prog 89 = some ⟨false, 1, 8, .val .nilFunc, [], 0, .other⟩ := by kernel_rfl
theorem ti90 : tiOf Tryz.prog 90 = some ⟨false, 1, 8, .val .nilFunc, [], 0, .other⟩ := by kernel_rfl
theorem ti91 : tiOf Tryz.prog 91 = some ⟨false, 1, 8, .val .nilFunc, [], 0, .other⟩ := by kernel_rfl
theorem ti92 : tiOf Tryz.prog 92 = some ⟨false, 1, 8, .val .nilFunc, [], 0, .other⟩ := by kernel_rfl
theorem ti93 : tiOf Tryz.prog 93 = some ⟨false, 1, 8, .val .nilFunc, [], 0, .other⟩ := by kernel_rfl
theorem ti94 : tiOf Tryz.prog 94 = some ⟨false, 1, 8, .val .nilFunc, [], 0, .other⟩ := by kernel_rfl
theorem ti95 : tiOf Tryz.prog 95 = some ⟨false, 1, 8, .val .nilFunc, [], 0, .other⟩ := by kernel_rfl
theorem ti96 : tiOf Tryz.prog 96 = some ⟨false, 1, 8, .val .nilFunc, [], 0, .other⟩ := by kernel_rfl
theorem ti97 : tiOf Tryz.prog 97 = some ⟨false, 1, 8, .val .nilFunc, [], 0, .other⟩ := by kernel_rfl
theorem ti98 : tiOf Tryz.prog 98 = some ⟨false, 1, 8, .val .nilFunc, [], 0, .other⟩ := by kernel_rfl
theorem ti99 : tiOf Tryz.prog 99 = some ⟨false, 1, 8, .val .nilFunc, [], 0, .other⟩ := by kernel_rfl
theorem ti100 : tiOf Tryz.prog 100 = some ⟨false, 1, 8, .val .nilFunc, [], 0, .other⟩ := by kernel_rfl
theorem ti101 : tiOf Tryz.prog 101 = some ⟨false, 1, 8, .val .nilFunc, [], 0, .other⟩ := by kernel_rfl
theorem ti102 : tiOf Tryz.prog 102 = some ⟨false, 1, 8, .val .nilFunc, [], 0, .other⟩ := by kernel_rfl
theorem ti103 : tiOf Tryz.prog 103 = some ⟨false, 1, 8, .val (.int .u64 0), [], 0, .int .u64⟩ := by kernel_rfl
theorem ti104 : tiOf Tryz.prog 104 = some ⟨false, 1, 8, .val .nilFunc, [], 0, .other⟩ := by kernel_rfl
theorem ti105 : tiOf Tryz.prog 105 = some ⟨false, 1, 8, .val .nilFunc, [], 0, .other⟩ := by kernel_rfl
theorem ti106 : tiOf Tryz.prog 106 = some ⟨false, 1, 0, .undef, [], 0, .other⟩ := by kernel_rfl
theorem ti107 : tiOf Tryz.prog 107 = some ⟨false, 1, 8, .val .nilFunc, [], 0, .other⟩ := by kernel_rfl
theorem ti108 : tiOf Tryz.prog 108 = some ⟨false, 1, 8, .val .nilFunc, [], 0, .other⟩ := by kernel_rfl
theorem ti109 : tiOf Tryz.prog 109 = some ⟨true, 3, 40, .agg [.val (.slice none 0 0), .val (.int .i64 0), .val (.int .i64 0)], [(0, 1, false), (1, 1, false), (2, 1, false)], 0, .struct⟩ := by kernel_rfl
theorem ti110 : tiOf Tryz.prog 110 = some ⟨true, 3, 40, .agg [.val (.slice none 0 0), .val (.int .i64 0), .val (.int .i64 0)], [(0, 1, false), (1, 1, false), (2, 1, false)], 0, .struct⟩ := by kernel_rfl
theorem ti111 : tiOf Tryz.prog 111 = some ⟨false, 1, 8, .val .nilFunc, [], 0, .other⟩ := by kernel_rfl
theorem ti112 : tiOf Tryz.prog 112 = some ⟨false, 1, 8, .val .nilFunc, [], 0, .other⟩ := by kernel_rfl
theorem ti113 : tiOf Tryz.prog 113 = some ⟨false, 1, 8, .val .nilFunc, [], 0, .other⟩ := by kernel_rfl
theorem ti114 : tiOf Tryz.prog 114 = some ⟨false, 1, 8, .val .nilFunc, [], 0, .other⟩ := by kernel_rfl
theorem ti115 : tiOf Tryz.prog 115 = some ⟨false, 1, 8, .val .nilFunc, [], 0, .other⟩ := by kernel_rfl
theorem ti116 : tiOf Tryz.prog 116 = some ⟨false, 1, 8, .val .nilFunc, [], 0, .other⟩ := by kernel_rfl
theorem ti117 : tiOf Tryz.prog 117 = some ⟨false, 1, 8, .val .nilFunc, [], 0, .other⟩ := by kernel_rfl
theorem ti118 : tiOf Tryz.prog 118 = some ⟨false, 1, 8, .val .nilFunc, [], 0, .other⟩ := by kernel_rfl
theorem ti119 : tiOf Tryz.prog 119 = some ⟨false, 1, 8, .val .nilFunc, [], 0, .other⟩ := by kernel_rfl
theorem ti120 : tiOf Tryz.prog 120 = some ⟨false, 1, 8, .val .nilFunc, [], 0, .other⟩ := by kernel_rfl
theorem ti121 : tiOf Tryz.prog 121 = some ⟨false, 1, 0, .undef, [], 0, .other⟩ := by kernel_rfl
theorem ti122 : tiOf Tryz.prog 122 = some ⟨false, 1, 8, .val .nilFunc, [], 0, .other⟩ := by kernel_rfl
theorem ti123 : tiOf Tryz.prog 123 = some ⟨false, 1, 8, .val .nilFunc, [], 0, .other⟩ := by kernel_rfl
theorem ti124 : tiOf Tryz.prog 124 = some ⟨false, 1, 8, .val .nilFunc, [], 0, .other⟩ := by kernel_rfl
theorem ti125 : tiOf Tryz.prog 125 = some ⟨false, 1, 8, .val .nilFunc, [], 0, .other⟩ := by kernel_rfl
theorem ti126 : tiOf Tryz.prog 126 = some ⟨false, 1, 8, .val .nilFunc, [], 0, .other⟩ := by kernel_rfl
theorem ti127 : tiOf Tryz.prog 127 = some ⟨false, 1, 8, .val .nilFunc, [], 0, .other⟩ := by kernel_rfl
theorem ti128 : tiOf Tryz.prog 128 = some ⟨false, 1, 8, .val .nilFunc, [], 0, .other⟩ := by kernel_rfl
theorem ti129 : tiOf Tryz.prog 129 = some ⟨false, 1, 8, .val .nilFunc, [], 0, .other⟩ := by kernel_rfl
theorem ti130 : tiOf Tryz.prog 130 = some ⟨false, 1, 8, .val .nilFunc, [], 0, .other⟩ := by kernel_rfl
theorem ti131 : tiOf Tryz.prog 131 = some ⟨false, 1, 8, .val .nilFunc, [], 0, .other⟩ := by kernel_rfl
theorem ti132 : tiOf Tryz.prog 132 = some ⟨false, 1, 8, .val .nilFunc, [], 0, .other⟩ := by kernel_rfl
theorem ti133 : tiOf Tryz.prog 133 = some ⟨false, 1, 8, .val .nilFunc, [], 0, .other⟩ := by kernel_rfl
theorem ti134 : tiOf Tryz.prog 134 = some ⟨false, 1, 8, .val .nilFunc, [], 0, .other⟩ := by kernel_rfl
theorem ti135 : tiOf Tryz.prog 135 = some ⟨false, 1, 8, .val .nilFunc, [], 0, .other⟩ := by kernel_rfl
theorem ti136 : tiOf Tryz.prog 136 = some ⟨false, 1, 8, .val .nilFunc, [], 0, .other⟩ := by kernel_rfl
theorem ti137 : tiOf Tryz.prog 137 = some ⟨false, 1, 8, .val (.pointer none), [], 0, .other⟩ := by kernel_rfl
theorem ti138 : tiOf Tryz.prog 138 = some ⟨false, 1, 8, .val .nilFunc, [], 0, .other⟩ := by kernel_rfl
theorem ti139 : tiOf Tryz.prog 139 = some ⟨false, 1, 8, .val .nilFunc, [], 0, .other⟩ := by kernel_rfl
theorem ti140 : tiOf Tryz.prog 140 = some ⟨false, 1, 8, .val .nilFunc, [], 0, .other⟩ := by kernel_rfl
theorem ti141 : tiOf Tryz.prog 141 = some ⟨false, 1, 8, .val .nilFunc, [], 0, .other⟩ := by kernel_rfl
theorem ti142 : tiOf Tryz.prog 142 = some ⟨false, 1, 8, .val .nilFunc, [], 0, .other⟩ := by kernel_rfl
theorem ti143 : tiOf Tryz.prog 143 = some ⟨false, 1, 8, .val (.int .i64 0), [], 0, .int .i64⟩ := by kernel_rfl
theorem ti144 : tiOf Tryz.prog 144 = some ⟨false, 1, 0, .undef, [], 0, .other⟩ := by kernel_rfl
theorem ti145 : tiOf Tryz.prog 145 = some ⟨false, 1, 8, .val .nilFunc, [], 0, .other⟩ := by kernel_rfl
theorem ti146 : tiOf Tryz.prog 146 = some ⟨false, 1, 8, .val .nilFunc, [], 0, .other⟩ := by kernel_rfl
theorem ti147 : tiOf Tryz.prog 147 = some ⟨false, 1, 8, .val .nilFunc, [], 0, .other⟩ := by kernel_rfl
theorem ti148 : tiOf Tryz.prog 148 = some ⟨false, 1, 8, .val .nilFunc, [], 0, .other⟩ := by kernel_rfl
theorem ti149 : tiOf Tryz.prog 149 = some ⟨false, 1, 8, .val .nilFunc, [], 0, .other⟩ := by kernel_rfl
theorem ti150 : tiOf Tryz.prog 150 = some ⟨false, 1, 8, .val .nilFunc, [], 0, .other⟩ := by kernel_rfl
theorem ti151 : tiOf Tryz.prog 151 = some ⟨false, 1, 4, .val (.int .u32 0), [], 0, .int .u32⟩ := by kernel_rfl
theorem ti152 : tiOf Tryz.prog 152 = some ⟨false, 1, 8, .val .nilFunc, [], 0, .other⟩ := by kernel_rfl
theorem ti153 : tiOf Tryz.prog 153 = some ⟨false, 1, 8, .val (.int .u64 0), [], 0, .int .u64⟩ := by kernel_rfl
theorem ti154 : tiOf Tryz.prog 154 = some ⟨false, 1, 8, .val .nilFunc, [], 0, .other⟩ := by kernel_rfl
theorem ti155 : tiOf Tryz.prog 155 = some ⟨false, 1, 24, .val (.slice none 0 0), [], 24, .slice⟩ := by kernel_rfl
theorem ti156 : tiOf Tryz.prog 156 = some ⟨true, 11, 120, .agg [.val (.int .i64 0), .val (.int .i64 0), .val (.int .i64 0), .val (.int .i64 0), .val (.int .i64 0), .val (.slice none 0 0), .val (.int .i64 0), .val (.int .i64 0), .val (.int .i64 0), .val (.bool false), .val (.slice none 0 0)], [(0, 6, true), (6, 1, false), (7, 1, false), (8, 1, false), (9, 1, false), (10, 1, false)], 0, .struct⟩ := by kernel_rfl
theorem ti157 : tiOf Tryz.prog 157 = some ⟨true, 11, 120, .agg [.val (.int .i64 0), .val (.int .i64 0), .val (.int .i64 0), .val (.int .i64 0), .val (.int .i64 0), .val (.slice none 0 0), .val (.int .i64 0), .val (.int .i64 0), .val (.int .i64 0), .val (.bool false), .val (.slice none 0 0)], [(0, 6, true), (6, 1, false), (7, 1, false), (8, 1, false), (9, 1, false), (10, 1, false)], 0, .struct⟩ := by kernel_rfl
theorem ti158 : tiOf Tryz.prog 158 = some ⟨false, 1, 8, .val .nilFunc, [], 0, .other⟩ := by kernel_rfl
theorem ti159 : tiOf Tryz.prog 159 = some ⟨false, 1, 8, .val .nilFunc, [], 0, .other⟩ := by kernel_rfl
theorem ti160 : tiOf Tryz.prog 160 = some ⟨false, 1, 8, .val .nilFunc, [], 0, .other⟩ := by kernel_rfl
theorem ti161 : tiOf Tryz.prog 161 = some ⟨false, 1, 8, .val (.int .u64 0), [], 0, .int .u64⟩ := by kernel_rfl
theorem ti162 : tiOf Tryz.prog 162 = some ⟨false, 1, 8, .val .nilFunc, [], 0, .other⟩ := by kernel_rfl
theorem ti163 : tiOf Tryz.prog 163 = some ⟨false, 1, 8, .val .nilFunc, [], 0, .other⟩ := by kernel_rfl
theorem ti164 : tiOf Tryz.prog 164 = some ⟨false, 1, 8, .val .nilFunc, [], 0, .other⟩ := by kernel_rfl
theorem ti165 : tiOf Tryz.prog 165 = some ⟨false, 1, 8, .val (.pointer none), [], 0, .other⟩ := by kernel_rfl
theorem ti166 : tiOf Tryz.prog 166 = some ⟨false, 1, 8, .val .nilFunc, [], 0, .other⟩ := by kernel_rfl
theorem ti167 : tiOf Tryz.prog 167 = some ⟨false, 1, 8, .val .nilFunc, [], 0, .other⟩ := by kernel_rfl
theorem ti168 : tiOf Tryz.prog 168 = some ⟨false, 1, 24, .val (.slice none 0 0), [], 4, .slice⟩ := by kernel_rfl
theorem ti169 : tiOf Tryz.prog 169 = some ⟨true, 2, 48, .agg [.val (.slice none 0 0), .val (.slice none 0 0)], [(0, 1, false), (1, 1, false)], 0, .struct⟩ := by kernel_rfl
theorem ti170 : tiOf Tryz.prog 170 = some ⟨true, 2, 48, .agg [.val (.slice none 0 0), .val (.slice none 0 0)], [(0, 1, false), (1, 1, false)], 0, .struct⟩ := by kernel_rfl
theorem ti171 : tiOf Tryz.prog 171 = some ⟨true, 3, 72, .agg [.val (.slice none 0 0), .val (.slice none 0 0), .val (.slice none 0 0)], [(0, 2, true), (2, 1, false)], 0, .struct⟩ := by kernel_rfl
theorem ti172 : tiOf Tryz.prog 172 = some ⟨true, 3, 72, .agg [.val (.slice none 0 0), .val (.slice none 0 0), .val (.slice none 0 0)], [(0, 2, true), (2, 1, false)], 0, .struct⟩ := by kernel_rfl
theorem ti173 : tiOf Tryz.prog 173 = some ⟨false, 1, 8, .val .nilFunc, [], 0, .other⟩ := by kernel_rfl
theorem ti174 : tiOf Tryz.prog 174 = some ⟨false, 1, 8, .val .nilFunc, [], 0, .other⟩ := by kernel_rfl
theorem ti175 : tiOf Tryz.prog 175 = some ⟨false, 1, 8, .val .nilFunc, [], 0, .other⟩ := by kernel_rfl
theorem ti176 : tiOf Tryz.prog 176 = some ⟨false, 1, 8, .val .nilFunc, [], 0, .other⟩ := by kernel_rfl
theorem ti177 : tiOf Tryz.prog 177 = some ⟨false, 1, 8, .val (.pointer none), [], 0, .other⟩ := by kernel_rfl
theorem ti178 : tiOf Tryz.prog 178 = some ⟨false, 1, 0, .undef, [], 0, .other⟩ := by kernel_rfl
theorem ti179 : tiOf Tryz.prog 179 = some ⟨false, 1, 8, .val .nilFunc, [], 0, .other⟩ := by kernel_rfl
theorem ti180 : tiOf Tryz.prog 180 = some ⟨false, 1, 8, .val .nilFunc, [], 0, .other⟩ := by kernel_rfl
theorem ti181 : tiOf Tryz.prog 181 = some ⟨false, 1, 8, .val .nilFunc, [], 0, .other⟩ := by kernel_rfl
theorem ti182 : tiOf Tryz.prog 182 = some ⟨false, 1, 8, .val .nilFunc, [], 0, .other⟩ := by kernel_rfl
theorem ti183 : tiOf Tryz.prog 183 = some ⟨false, 1, 8, .val .nilFunc, [], 0, .other⟩ := by kernel_rfl
theorem ti184 : tiOf Tryz.prog 184 = some ⟨false, 1, 8, .val .nilFunc, [], 0, .other⟩ := by kernel_rfl
theorem ti185 : tiOf Tryz.prog 185 = some ⟨false, 1, 8, .val .nilFunc, [], 0, .other⟩ := by kernel_rfl
theorem ti186 : tiOf Tryz.prog 186 = some ⟨true, 4, 40, .agg [.val (.pointer none), .val (.pointer none), .val (.pointer none), .val (.string ⟨#[]⟩)], [(0, 1, false), (1, 1, false), (2, 1, false), (3, 1, false)], 0, .struct⟩ := by kernel_rfl
theorem ti187 : tiOf Tryz.prog 187 = some ⟨true, 4, 40, .agg [.val (.pointer none), .val (.pointer none), .val (.pointer none), .val (.string ⟨#[]⟩)], [(0, 1, false), (1, 1, false), (2, 1, false), (3, 1, false)], 0, .struct⟩ := by kernel_rfl
theorem ti188 : tiOf Tryz.prog 188 = some ⟨true, 0, 0, .agg [], [], 0, .other⟩ := by kernel_rfl
theorem ti189 : tiOf Tryz.prog 189 = some ⟨true, 0, 0, .agg [], [(0, 0, true)], 0, .struct⟩ := by kernel_rfl
theorem ti190 : tiOf Tryz.prog 190 = some ⟨true, 0, 0, .agg [], [(0, 0, true)], 0, .struct⟩ := by kernel_rfl
theorem ti191 : tiOf Tryz.prog 191 = some ⟨false, 1, 8, .val .nilFunc, [], 0, .other⟩ := by kernel_rfl
theorem ti192 : tiOf Tryz.prog 192 = some ⟨false, 1, 1, .val (.int .u8 0), [], 0, .int .u8⟩ := by kernel_rfl
theorem ti193 : tiOf Tryz.prog 193 = some ⟨false, 1, 1, .val (.int .u8 0), [], 0, .int .u8⟩ := by kernel_rfl
theorem ti194 : tiOf Tryz.prog 194 = some ⟨false, 1, 8, .val .nilFunc, [], 0, .other⟩ := by kernel_rfl
theorem ti195 : tiOf Tryz.prog 195 = some ⟨false, 1, 8, .val (.pointer none), [], 0, .other⟩ := by kernel_rfl
theorem ti196 : tiOf Tryz.prog 196 = some ⟨false, 1, 4, .val (.int .i32 0), [], 0, .int .i32⟩ := by kernel_rfl
theorem ti197 : tiOf Tryz.prog 197 = some ⟨false, 1, 4, .val (.int .i32 0), [], 0, .int .i32⟩ := by kernel_rfl
theorem ti198 : tiOf Tryz.prog 198 = some ⟨true, 11, 48, .agg [.val (.int .u64 0), .val (.int .u64 0), .val (.int .u32 0), .val (.int .u8 0), .val (.int .u8 0), .val (.int .u8 0), .val (.int .u8 0), .val .nilFunc, .val (.pointer none), .val (.int .i32 0), .val (.int .i32 0)], [(0, 1, false), (1, 1, false), (2, 1, false), (3, 1, false), (4, 1, false), (5, 1, false), (6, 1, false), (7, 1, false), (8, 1, false), (9, 1, false), (10, 1, false)], 0, .struct⟩ := by kernel_rfl
theorem ti199 : tiOf Tryz.prog 199 = some ⟨true, 11, 48, .agg [.val (.int .u64 0), .val (.int .u64 0), .val (.int .u32 0), .val (.int .u8 0), .val (.int .u8 0), .val (.int .u8 0), .val (.int .u8 0), .val .nilFunc, .val (.pointer none), .val (.int .i32 0), .val (.int .i32 0)], [(0, 1, false), (1, 1, false), (2, 1, false), (3, 1, false), (4, 1, false), (5, 1, false), (6, 1, false), (7, 1, false), (8, 1, false), (9, 1, false), (10, 1, false)], 0, .struct⟩ := by kernel_rfl
theorem ti200 : tiOf Tryz.prog 200 = some ⟨false, 1, 8, .val (.pointer none), [], 0, .other⟩ := by kernel_rfl
attribute [go_sem] ti0 ti1 ti2 ti3 ti4 ti5 ti6 ti7 ti8 ti9 ti10 ti11 ti12 ti13 ti14 ti15 ti16 ti17 ti18 ti19
attribute [go_sem] ti20 ti21 ti22 ti23 ti24 ti25 ti26 ti27 ti28 ti29 ti30 ti31 ti32 ti33 ti34 ti35 ti36 ti37 ti38 ti39
attribute [go_sem] ti40 ti41 ti42 ti43 ti44 ti45 ti46 ti47 ti48 ti49 ti50 ti51 ti52 ti53 ti54 ti55 ti56 ti57 ti58 ti59
attribute [go_sem] ti60 ti61 ti62 ti63 ti64 ti65 ti66 ti67 ti68 ti69 ti70 ti71 ti72 ti73 ti74 ti75 ti76 ti77 ti78 ti79
attribute [go_sem] ti80 ti81 ti82 ti83 ti84 ti85 ti86 ti87 ti88 ti89 ti90 ti91 ti92 ti93 ti94 ti95 ti96 ti97 ti98 ti99
attribute [go_sem] ti100 ti101 ti102 ti103 ti104 ti105 ti106 ti107 ti108 ti109 ti110 ti111 ti112 ti113 ti114 ti115 ti116 ti117 ti118 ti119
attribute [go_sem] ti120 ti121 ti122 ti123 ti124 ti125 ti126 ti127 ti128 ti129 ti130 ti131 ti132 ti133 ti134 ti135 ti136 ti137 ti138 ti139
attribute [go_sem] ti140 ti141 ti142 ti143 ti144 ti145 ti146 ti147 ti148 ti149 ti150 ti151 ti152 ti153 ti154 ti155 ti156 ti157 ti158 ti159
attribute [go_sem] ti160 ti161 ti162 ti163 ti164 ti165 ti166 ti167 ti168 ti169 ti170 ti171 ti172 ti173 ti174 ti175 ti176 ti177 ti178 ti179
attribute [go_sem] ti180 ti181 ti182 ti183 ti184 ti185 ti186 ti187 ti188 ti189 ti190 ti191 ti192 ti193 ti194 ti195 ti196 ti197 ti198 ti199
attribute [go_sem] ti200
end Go.Vc


/-
  Contracts of small functions on numbers and lists, and of the laws' helpers for lists of numbers.
-/
set_option linter.unusedVariables false
set_option linter.unusedSimpArgs false
set_option linter.unnecessarySimpa false
namespace Go.Vc
open Go.Proofs
set_option maxRecDepth 100000
def isIn (a b c : Int) : Bool := decide (a ≥ b) && decide (a ≤ c)
theorem range_all_succ (p : Nat → Bool) (i : Nat) : (List.range (i + 1)).all p = ((List.range i).all p && p i) := by
  rw [List.range_succ, List.all_append]; simp
theorem range_all_no {p : Nat → Bool} {i n : Nat} (h : i < n) (hp : p i = false) : (List.range n).all p = false := by
  rw [List.all_eq_false]; exact ⟨i, List.mem_range.2 h, by simp [hp]⟩
/-- the numbers below i with a property, in order -/
def flt (p : Nat → Bool) (i : Nat) : List Int := List.map (fun j : Nat => (j : Int)) ((List.range i).filter p)
theorem flt_zero (p : Nat → Bool) : flt p 0 = [] := rfl
theorem flt_succ (p : Nat → Bool) (i : Nat) : flt p (i + 1) = if p i then flt p i ++ [(i : Int)] else flt p i := by
  simp only [flt, List.range_succ, List.filter_append, List.map_append]
  rw [List.filter_cons]
  split <;> simp
theorem flt_len (p : Nat → Bool) (i : Nat) : (flt p i).length ≤ i := by
  rw [flt, List.length_map]
  exact Nat.le_trans (List.length_filter_le _ _) (by simp)
theorem flt_mem {p : Nat → Bool} {i : Nat} {x : Int} (h : x ∈ flt p i) : ∃ j : Nat, j < i ∧ x = j ∧ p j = true := by
  simp only [flt, List.mem_map, List.mem_filter, List.mem_range] at h
  obtain ⟨j, ⟨h1, h2⟩, h3⟩ := h
  exact ⟨j, h1, h3.symm, h2⟩
attribute [irreducible] flt
theorem pred_toNat {i : Nat} (h : 0 < i) : ((i : Int) - 1).toNat = i - 1 := by omega
theorem c_l01In (a b c : Int) : Fn Tryz.prog 68 [eI a, eI b, eI c] true (· = eB (isIn a b c)) := by
  refine Fn.of_vcN 15 [.tmp 6] Tryz.func68 rfl rfl rfl rfl rfl (of_decide_eq_true rfl) ?_
  simp -dsimp -implicitDefEqProofs only [go_sem, ↓reduceIte, Nat.reduceEqDiff, Nat.reduceLT, Nat.reduceAdd, Nat.reduceMul, Nat.reduceLeDiff, Nat.le_refl, Int.natCast_zero, Int.toNat_natCast, Int.reduceToNat]
  repeat' (refine Br.intro (fun _ => ?_) (fun _ => ?_) <;> try simp -dsimp -implicitDefEqProofs only [go_sem, ↓reduceIte, Nat.reduceEqDiff, Nat.reduceLT, Nat.reduceAdd, Nat.reduceMul, Nat.reduceLeDiff, Nat.le_refl, Int.natCast_zero, Int.toNat_natCast, Int.reduceToNat, *])
  all_goals first
    | (simp_all [isIn]; done)
    | (simp_all [isIn]; omega)
theorem c_within (a b c : Int) : Fn Tryz.prog 66 [eI a, eI b, eI c] true (· = eB (isIn a b c)) := by
  refine Fn.of_vcN 15 [.tmp 6] Tryz.func66 rfl rfl rfl rfl rfl (of_decide_eq_true rfl) ?_
  simp -dsimp -implicitDefEqProofs only [go_sem, ↓reduceIte, Nat.reduceEqDiff, Nat.reduceLT, Nat.reduceAdd, Nat.reduceMul, Nat.reduceLeDiff, Nat.le_refl, Int.natCast_zero, Int.toNat_natCast, Int.reduceToNat]
  repeat' (refine Br.intro (fun _ => ?_) (fun _ => ?_) <;> try simp -dsimp -implicitDefEqProofs only [go_sem, ↓reduceIte, Nat.reduceEqDiff, Nat.reduceLT, Nat.reduceAdd, Nat.reduceMul, Nat.reduceLeDiff, Nat.le_refl, Int.natCast_zero, Int.toNat_natCast, Int.reduceToNat, *])
  all_goals first
    | (simp_all [isIn]; done)
    | (simp_all [isIn]; omega)
theorem c_allWithin (xs : List Int) (a b : Int) (h : xs.length ≤ 9223372036854775807) : Fn Tryz.prog 134 [eIs xs, eI a, eI b] true (· = eB (xs.all fun x => isIn x a b)) := by
  refine Fn.of_vcN 21 [.tmp 6] Tryz.func134 rfl rfl rfl rfl rfl (of_decide_eq_true rfl) ?_
  simp -dsimp -implicitDefEqProofs only [go_sem, ↓reduceIte, Nat.reduceEqDiff, Nat.reduceLT, Nat.reduceAdd, Nat.reduceMul, Nat.reduceLeDiff, Nat.le_refl, Int.natCast_zero, Int.toNat_natCast, Int.reduceToNat]
  refine Later.up [1, 2, 9, 10] [18] [] xs.length (fun i => (xs.take i).all fun x => isIn x a b) (fun i => [(11, eI i)]) (fun _ => []) (by simp) ?_ rfl (fun i hi hI => ?_) (fun hI => ?_)
  · simp -dsimp -implicitDefEqProofs only [go_sem, ↓reduceIte, Nat.reduceEqDiff, Nat.reduceLT, Nat.reduceAdd, Nat.reduceMul, Nat.reduceLeDiff, Nat.le_refl, Int.natCast_zero, Int.toNat_natCast, Int.reduceToNat]
  · simp -dsimp -implicitDefEqProofs only [pick_nil, pick_cons, look_nil, look_cons, dropB_nil, dropB_cons, inD_nil, inD_cons, inE_nil, inE_cons, or_t_l, or_f_l, Nat.reduceBEq, Nat.reduceDiv, Nat.reduceAdd, beq_self_eq_true, Bool.false_eq_true, Bool.or_false, ↓reduceIte, Nat.reduceEqDiff, List.cons_append, List.nil_append]
    have no : isIn xs[i] a b = false → (xs.all fun x => isIn x a b) = false := fun h => all_no (p := fun x => isIn x a b) hi h
    have yes : isIn xs[i] a b = true → ((xs.take (i + 1)).all fun x => isIn x a b) = true := fun h => by rw [all_take _ _ _ hi, hI, h]; rfl
    simp -dsimp -implicitDefEqProofs only [go_sem, ↓reduceIte, Nat.reduceEqDiff, Nat.reduceLT, Nat.reduceAdd, Nat.reduceMul, Nat.reduceLeDiff, Nat.le_refl, Int.natCast_zero, Int.toNat_natCast, Int.reduceToNat, lt_len hi, get_some hi]
    repeat' first
      | (refine Br.intro (fun _ => ?_) (fun _ => ?_) <;> try simp -dsimp -implicitDefEqProofs only [go_sem, ↓reduceIte, Nat.reduceEqDiff, Nat.reduceLT, Nat.reduceAdd, Nat.reduceMul, Nat.reduceLeDiff, Nat.le_refl, Int.natCast_zero, Int.toNat_natCast, Int.reduceToNat, *])
      | (with_reducible refine And.intro ?_ ?_)
      | (refine sCallT_one (c_within _ _ _) ?_; try simp -dsimp -implicitDefEqProofs only [go_sem, ↓reduceIte, Nat.reduceEqDiff, Nat.reduceLT, Nat.reduceAdd, Nat.reduceMul, Nat.reduceLeDiff, Nat.le_refl, Int.natCast_zero, Int.toNat_natCast, Int.reduceToNat, *])
    all_goals first | omega | (refine ⟨?_, ?_⟩ <;> omega) | (simp; done) | (rw [no]; clear no yes; simp_all []; done) | (rw [no]; clear no yes; simp_all []; omega) | (refine yes ?_; clear no yes; simp_all []; done) | (refine yes ?_; clear no yes; simp_all []; omega) | (simp_all [I64]; done) | (simp_all [I64]; omega) | trace_state
  · simp -dsimp -implicitDefEqProofs only [pick_nil, pick_cons, look_nil, look_cons, dropB_nil, dropB_cons, inD_nil, inD_cons, inE_nil, inE_cons, or_t_l, or_f_l, Nat.reduceBEq, Nat.reduceDiv, Nat.reduceAdd, beq_self_eq_true, Bool.false_eq_true, Bool.or_false, ↓reduceIte, Nat.reduceEqDiff, List.cons_append, List.nil_append]
    simp -dsimp -implicitDefEqProofs only [go_sem, ↓reduceIte, Nat.reduceEqDiff, Nat.reduceLT, Nat.reduceAdd, Nat.reduceMul, Nat.reduceLeDiff, Nat.le_refl, Int.natCast_zero, Int.toNat_natCast, Int.reduceToNat, nlt_len]
    rw [List.take_length] at hI
    rw [hI]
theorem mixed : Tryz.prog.follows .mixedOrders = true := by kernel_rfl
theorem c_szInt64S (xs : List Int) (n : Int) (h : xs.length ≤ 9223372036854775807) (hn : 0 ≤ n ∧ n ≤ 1048576) : Fn Tryz.prog 36 [eIs xs, eI n] true (· = eI (if n < xs.length then -1 else n - xs.length)) := by
  refine Fn.of_vcN 12 [.tmp 4] Tryz.func36 rfl rfl rfl rfl rfl (of_decide_eq_true rfl) ?_
  simp -dsimp -implicitDefEqProofs only [go_sem, ↓reduceIte, Nat.reduceEqDiff, Nat.reduceLT, Nat.reduceAdd, Nat.reduceMul, Nat.reduceLeDiff, Nat.le_refl, Int.natCast_zero, Int.toNat_natCast, Int.reduceToNat]
  repeat' first
    | (refine Br.intro (fun _ => ?_) (fun _ => ?_) <;> try simp -dsimp -implicitDefEqProofs only [go_sem, ↓reduceIte, Nat.reduceEqDiff, Nat.reduceLT, Nat.reduceAdd, Nat.reduceMul, Nat.reduceLeDiff, Nat.le_refl, Int.natCast_zero, Int.toNat_natCast, Int.reduceToNat, *])
    | (with_reducible refine And.intro ?_ ?_)
  all_goals first
    | (refine ⟨?_, ?_⟩ <;> omega)
    | (rw [if_pos]; simp_all <;> omega)
    | (rw [if_neg]; simp_all <;> omega)
theorem c_toInt64S (xs : List Int) (h : xs.length ≤ 1048576) : Fn Tryz.prog 41 [eIs xs] true (· = eIs xs) := by
  refine Fn.of_vcN 22 [.tmp 2] Tryz.func41 rfl rfl rfl rfl rfl (of_decide_eq_true rfl) ?_
  simp -dsimp -implicitDefEqProofs only [go_sem, ↓reduceIte, Nat.reduceEqDiff, Nat.reduceLT, Nat.reduceAdd, Nat.reduceMul, Nat.reduceLeDiff, Nat.le_refl, Int.natCast_zero, Int.toNat_natCast, Int.reduceToNat]
  repeat' (with_reducible refine And.intro ?_ ?_)
  all_goals try omega
  refine Later.up [0, 3] [10] [7] xs.length (fun _ => True) (fun i => [(4, eI i)]) (fun i => [(7, .row 0 ⟨1, false⟩ true (fill eI (eI 0) xs i))]) trivial ?_ rfl (fun i hi _ => ?_) (fun _ => ?_)
  · simp -dsimp -implicitDefEqProofs only [go_sem, ↓reduceIte, Nat.reduceEqDiff, Nat.reduceLT, Nat.reduceAdd, Nat.reduceMul, Nat.reduceLeDiff, Nat.le_refl, Int.natCast_zero, Int.toNat_natCast, Int.reduceToNat, fill_zero]
  · simp -dsimp -implicitDefEqProofs only [pick_nil, pick_cons, look_nil, look_cons, dropB_nil, dropB_cons, inD_nil, inD_cons, inE_nil, inE_cons, or_t_l, or_f_l, Nat.reduceBEq, Nat.reduceDiv, Nat.reduceAdd, beq_self_eq_true, Bool.false_eq_true, Bool.or_false, ↓reduceIte, Nat.reduceEqDiff, List.cons_append, List.nil_append]
    simp -dsimp -implicitDefEqProofs only [go_sem, ↓reduceIte, Nat.reduceEqDiff, Nat.reduceLT, Nat.reduceAdd, Nat.reduceMul, Nat.reduceLeDiff, Nat.le_refl, Int.natCast_zero, Int.toNat_natCast, Int.reduceToNat, lt_len hi, get_some hi, fill_get _ _ _ _ hi, fill_set _ _ _ _ hi]
    repeat' first
      | (with_reducible refine And.intro ?_ ?_)
      | fail
    all_goals first
      | omega
      | (refine ⟨?_, ?_⟩ <;> omega)
      | (simp; done)
  · simp -dsimp -implicitDefEqProofs only [pick_nil, pick_cons, look_nil, look_cons, dropB_nil, dropB_cons, inD_nil, inD_cons, inE_nil, inE_cons, or_t_l, or_f_l, Nat.reduceBEq, Nat.reduceDiv, Nat.reduceAdd, beq_self_eq_true, Bool.false_eq_true, Bool.or_false, ↓reduceIte, Nat.reduceEqDiff, List.cons_append, List.nil_append]
    simp -dsimp -implicitDefEqProofs only [go_sem, ↓reduceIte, Nat.reduceEqDiff, Nat.reduceLT, Nat.reduceAdd, Nat.reduceMul, Nat.reduceLeDiff, Nat.le_refl, Int.natCast_zero, Int.toNat_natCast, Int.reduceToNat, nlt_len, fill_all]
    repeat' (with_reducible refine And.intro ?_ ?_)
    all_goals first
      | omega
      | decide
      | (simp; done)
theorem c_eqInt64S (xs ys : List Int) (h : xs.length ≤ 9223372036854775807) : Fn Tryz.prog 14 [eIs xs, eIs ys] true (· = eB (decide (xs = ys))) := by
  refine Fn.of_vcN 26 [.tmp 4] Tryz.func14 rfl rfl rfl rfl rfl (of_decide_eq_true rfl) ?_
  simp -dsimp -implicitDefEqProofs only [go_sem, ↓reduceIte, Nat.reduceEqDiff, Nat.reduceLT, Nat.reduceAdd, Nat.reduceMul, Nat.reduceLeDiff, Nat.le_refl, Int.natCast_zero, Int.toNat_natCast, Int.reduceToNat]
  repeat' (refine Br.intro (fun _ => ?_) (fun _ => ?_) <;> try simp -dsimp -implicitDefEqProofs only [go_sem, ↓reduceIte, Nat.reduceEqDiff, Nat.reduceLT, Nat.reduceAdd, Nat.reduceMul, Nat.reduceLeDiff, Nat.le_refl, Int.natCast_zero, Int.toNat_natCast, Int.reduceToNat, *])
  · rw [decide_eq_false]; intro e; subst e; simp_all
  have h1 : xs.length = ys.length := by simp_all <;> omega
  refine Later.up [0, 1] [13] [] xs.length (fun i => xs.take i = ys.take i) (fun i => [(5, eI i)]) (fun _ => []) rfl ?_ rfl (fun i hi hI => ?_) (fun hI => ?_)
  · simp -dsimp -implicitDefEqProofs only [go_sem, ↓reduceIte, Nat.reduceEqDiff, Nat.reduceLT, Nat.reduceAdd, Nat.reduceMul, Nat.reduceLeDiff, Nat.le_refl, Int.natCast_zero, Int.toNat_natCast, Int.reduceToNat]
  · simp -dsimp -implicitDefEqProofs only [pick_nil, pick_cons, look_nil, look_cons, dropB_nil, dropB_cons, inD_nil, inD_cons, inE_nil, inE_cons, or_t_l, or_f_l, Nat.reduceBEq, Nat.reduceDiv, Nat.reduceAdd, beq_self_eq_true, Bool.false_eq_true, Bool.or_false, ↓reduceIte, Nat.reduceEqDiff, List.cons_append, List.nil_append]
    have hy : i < ys.length := by omega
    have no : xs[i] ≠ ys[i] → decide (xs = ys) = false := eq_no hi hy
    have yes : xs[i] = ys[i] → xs.take (i + 1) = ys.take (i + 1) := eq_yes hi hy hI
    simp -dsimp -implicitDefEqProofs only [go_sem, ↓reduceIte, Nat.reduceEqDiff, Nat.reduceLT, Nat.reduceAdd, Nat.reduceMul, Nat.reduceLeDiff, Nat.le_refl, Int.natCast_zero, Int.toNat_natCast, Int.reduceToNat, lt_len hi, get_some hi]
    refine Later.draw mixed rfl ?_
    simp -dsimp -implicitDefEqProofs only [go_sem, ↓reduceIte, Nat.reduceEqDiff, Nat.reduceLT, Nat.reduceAdd, Nat.reduceMul, Nat.reduceLeDiff, Nat.le_refl, Int.natCast_zero, Int.toNat_natCast, Int.reduceToNat, get_some hi, get_some hy]
    repeat' first
      | (refine Br.intro (fun _ => ?_) (fun _ => ?_) <;> try simp -dsimp -implicitDefEqProofs only [go_sem, ↓reduceIte, Nat.reduceEqDiff, Nat.reduceLT, Nat.reduceAdd, Nat.reduceMul, Nat.reduceLeDiff, Nat.le_refl, Int.natCast_zero, Int.toNat_natCast, Int.reduceToNat, *])
      | (with_reducible refine And.intro ?_ ?_)
      | fail
    all_goals first
      | omega
      | (refine ⟨?_, ?_⟩ <;> omega)
      | rfl
      | (simp; done)
      | (rw [no]; clear no yes; simp_all; done)
      | (refine yes ?_; clear no yes; simp_all; done)
  · simp -dsimp -implicitDefEqProofs only [pick_nil, pick_cons, look_nil, look_cons, dropB_nil, dropB_cons, inD_nil, inD_cons, inE_nil, inE_cons, or_t_l, or_f_l, Nat.reduceBEq, Nat.reduceDiv, Nat.reduceAdd, beq_self_eq_true, Bool.false_eq_true, Bool.or_false, ↓reduceIte, Nat.reduceEqDiff, List.cons_append, List.nil_append]
    simp -dsimp -implicitDefEqProofs only [go_sem, ↓reduceIte, Nat.reduceEqDiff, Nat.reduceLT, Nat.reduceAdd, Nat.reduceMul, Nat.reduceLeDiff, Nat.le_refl, Int.natCast_zero, Int.toNat_natCast, Int.reduceToNat, nlt_len]
    have h3 : xs = ys := by rw [← List.take_length (l := xs), hI, h1, List.take_length]
    simp [h3]
def markLInt64S (k : Int) (n : Nat) : List Int := (List.range n).map fun i : Nat => (k + (i : Int))
theorem markLInt64S_len (k : Int) (n : Nat) : (markLInt64S k n).length = n := by simp [markLInt64S]
theorem take_markLInt64S {β : Type} (f : Int → β) (k : Int) (n : Nat) : ((markLInt64S k n).map f).take n = (markLInt64S k n).map f := List.take_of_length_le (by simp [markLInt64S])
attribute [go_sem] markLInt64S_len take_markLInt64S
theorem c_markInt64S (xs : List Int) (k : Int) (v : Nat) (dp : Bool) (hk : 0 ≤ k ∧ k ≤ 1000000000000) (h : xs.length ≤ 1000000000000) :
    FnM Tryz.prog 21 [.row v ⟨1, false⟩ dp (xs.map eI)] [.ref 1000000000 v 0 xs.length, eI k] (fun x io => x = eI (k + 1 * xs.length) ∧ io = [.row v ⟨1, false⟩ dp ((markLInt64S k xs.length).map eI)]) := by
  refine FnM.of_vcN 19 [.tmp 4] Tryz.func21 rfl rfl rfl rfl rfl (of_decide_eq_true rfl) ?_
  simp -dsimp -implicitDefEqProofs only [go_sem, ↓reduceIte, Nat.reduceEqDiff, Nat.reduceLT, Nat.reduceAdd, Nat.reduceMul, Nat.reduceLeDiff, Nat.le_refl, Int.natCast_zero, Int.toNat_natCast, Int.reduceToNat]
  refine Later.up [0] [8] [1000000000] xs.length (fun _ => True) (fun i => [(5, eI i), (1, eI (k + 1 * i))]) (fun i => [(1000000000, .row v ⟨1, false⟩ dp (mk1 (fun i : Nat => eI ((k + (i : Int)))) (xs.map eI) i))]) trivial ?_ rfl (fun i hi _ => ?_) (fun _ => ?_)
  · simp -dsimp -implicitDefEqProofs only [go_sem, ↓reduceIte, Nat.reduceEqDiff, Nat.reduceLT, Nat.reduceAdd, Nat.reduceMul, Nat.reduceLeDiff, Nat.le_refl, Int.natCast_zero, Int.toNat_natCast, Int.reduceToNat, mk1_zero, Int.mul_zero, Int.add_zero]
  · simp -dsimp -implicitDefEqProofs only [pick_nil, pick_cons, look_nil, look_cons, dropB_nil, dropB_cons, inD_nil, inD_cons, inE_nil, inE_cons, or_t_l, or_f_l, Nat.reduceBEq, Nat.reduceDiv, Nat.reduceAdd, beq_self_eq_true, Bool.false_eq_true, Bool.or_false, ↓reduceIte, Nat.reduceEqDiff, List.cons_append, List.nil_append]
    have g0 := mk1_get (fun i : Nat => eI ((k + (i : Int)))) (xs.map eI) i (by simpa using hi)
    have g1 := mk1_set (fun i : Nat => eI ((k + (i : Int)))) (xs.map eI) i (by simpa using hi)
    have g2 := fun x => mk1_set2 (fun i : Nat => eI ((k + (i : Int)))) (xs.map eI) i x (by simpa using hi)
    rw [List.getElem_map] at g0
    simp -dsimp -implicitDefEqProofs only [go_sem, ↓reduceIte, Nat.reduceEqDiff, Nat.reduceLT, Nat.reduceAdd, Nat.reduceMul, Nat.reduceLeDiff, Nat.le_refl, Int.natCast_zero, Int.toNat_natCast, Int.reduceToNat, lt_len hi, g0, g2, List.set_set, mk1_len, List.length_set]
    repeat' (with_reducible refine And.intro ?_ ?_)
    all_goals first
      | omega
      | (refine ⟨?_, ?_⟩ <;> omega)
      | (simp; done)
      | (simp; omega)
      | (rw [← g1]; congr 1; simp <;> omega)
  · simp -dsimp -implicitDefEqProofs only [pick_nil, pick_cons, look_nil, look_cons, dropB_nil, dropB_cons, inD_nil, inD_cons, inE_nil, inE_cons, or_t_l, or_f_l, Nat.reduceBEq, Nat.reduceDiv, Nat.reduceAdd, beq_self_eq_true, Bool.false_eq_true, Bool.or_false, ↓reduceIte, Nat.reduceEqDiff, List.cons_append, List.nil_append]
    simp -dsimp -implicitDefEqProofs only [go_sem, ↓reduceIte, Nat.reduceEqDiff, Nat.reduceLT, Nat.reduceAdd, Nat.reduceMul, Nat.reduceLeDiff, Nat.le_refl, Int.natCast_zero, Int.toNat_natCast, Int.reduceToNat, nlt_len, mk1_all _ _ _ (show (xs.map eI).length ≤ xs.length by simp)]
    repeat' (with_reducible refine And.intro ?_ ?_)
    all_goals first
      | (simp; done)
      | (simp [markLInt64S, List.map_map, Function.comp_def]; done)
theorem c_heldInt64S (n : Nat) (k : Int) (hk : 0 ≤ k ∧ k ≤ 1000000000000) (h : n ≤ 1000000000000) :
    Fn Tryz.prog 22 [eIs (markLInt64S k n), eI k] true (· = eI (k + 1 * n)) := by
  refine Fn.of_vcN 21 [.tmp 4] Tryz.func22 rfl rfl rfl rfl rfl (of_decide_eq_true rfl) ?_
  simp -dsimp -implicitDefEqProofs only [go_sem, ↓reduceIte, Nat.reduceEqDiff, Nat.reduceLT, Nat.reduceAdd, Nat.reduceMul, Nat.reduceLeDiff, Nat.le_refl, Int.natCast_zero, Int.toNat_natCast, Int.reduceToNat]
  have hl : (markLInt64S k n).length = n := by simp [markLInt64S]
  refine Later.up [0] [8] [] n (fun _ => True) (fun i => [(5, eI i), (1, eI (k + 1 * i))]) (fun _ => []) trivial ?_ rfl (fun i hi _ => ?_) (fun _ => ?_)
  · simp -dsimp -implicitDefEqProofs only [go_sem, ↓reduceIte, Nat.reduceEqDiff, Nat.reduceLT, Nat.reduceAdd, Nat.reduceMul, Nat.reduceLeDiff, Nat.le_refl, Int.natCast_zero, Int.toNat_natCast, Int.reduceToNat, Int.mul_zero, Int.add_zero]
  · simp -dsimp -implicitDefEqProofs only [pick_nil, pick_cons, look_nil, look_cons, dropB_nil, dropB_cons, inD_nil, inD_cons, inE_nil, inE_cons, or_t_l, or_f_l, Nat.reduceBEq, Nat.reduceDiv, Nat.reduceAdd, beq_self_eq_true, Bool.false_eq_true, Bool.or_false, ↓reduceIte, Nat.reduceEqDiff, List.cons_append, List.nil_append]
    have g0 : (markLInt64S k n)[i]? = some ((k + (i : Int))) := by simp [markLInt64S, hi]
    simp -dsimp -implicitDefEqProofs only [go_sem, ↓reduceIte, Nat.reduceEqDiff, Nat.reduceLT, Nat.reduceAdd, Nat.reduceMul, Nat.reduceLeDiff, Nat.le_refl, Int.natCast_zero, Int.toNat_natCast, Int.reduceToNat, hl, lt_len hi, g0, bne_self_eq_false]
    repeat' first
      | (refine Br.intro (fun _ => ?_) (fun _ => ?_) <;> try simp -dsimp -implicitDefEqProofs only [go_sem, ↓reduceIte, Nat.reduceEqDiff, Nat.reduceLT, Nat.reduceAdd, Nat.reduceMul, Nat.reduceLeDiff, Nat.le_refl, Int.natCast_zero, Int.toNat_natCast, Int.reduceToNat, *])
      | (with_reducible refine And.intro ?_ ?_)
    all_goals first
      | omega
      | (refine ⟨?_, ?_⟩ <;> omega)
      | (simp; done)
      | (simp; omega)
      | (simp_all; done)
      | (simp_all; omega)
  · simp -dsimp -implicitDefEqProofs only [pick_nil, pick_cons, look_nil, look_cons, dropB_nil, dropB_cons, inD_nil, inD_cons, inE_nil, inE_cons, or_t_l, or_f_l, Nat.reduceBEq, Nat.reduceDiv, Nat.reduceAdd, beq_self_eq_true, Bool.false_eq_true, Bool.or_false, ↓reduceIte, Nat.reduceEqDiff, List.cons_append, List.nil_append]
    simp -dsimp -implicitDefEqProofs only [go_sem, ↓reduceIte, Nat.reduceEqDiff, Nat.reduceLT, Nat.reduceAdd, Nat.reduceMul, Nat.reduceLeDiff, Nat.le_refl, Int.natCast_zero, Int.toNat_natCast, Int.reduceToNat, hl, nlt_len]
end Go.Vc


/-
  Contracts of the laws' helpers for lists of lists of numbers, and for locks.
-/
set_option linter.unusedVariables false
set_option linter.unusedSimpArgs false
set_option linter.unnecessarySimpa false
namespace Go.Vc
open Go.Proofs
set_option maxRecDepth 100000
abbrev eIss (xs : List (List Int)) : AV := .arr ⟨1, false⟩ (xs.map eIs)
abbrev eLk (l : List (List Int)) : AV := .agg [eIss l]
def tot (xs : List (List Int)) : Nat := (xs.map List.length).sum
theorem tot_nil : tot [] = 0 := rfl
theorem tot_take (xs : List (List Int)) (i : Nat) (h : i < xs.length) : tot (xs.take (i + 1)) = tot (xs.take i) + xs[i].length := by
  rw [List.take_succ_eq_append_getElem h, tot, List.map_append, List.sum_append]; simp [tot]
theorem tot_le (xs : List (List Int)) (i : Nat) : tot (xs.take i) ≤ tot xs := by
  have : tot xs = tot (xs.take i) + tot (xs.drop i) := by
    rw [tot, tot, tot, ← List.sum_append, ← List.map_append, List.take_append_drop]
  omega
theorem len_tot (xs : List (List Int)) (x : List Int) (h : x ∈ xs) : x.length ≤ tot xs := by
  obtain ⟨i, hi, rfl⟩ := List.getElem_of_mem h
  have := tot_le xs (i + 1)
  rw [tot_take xs i hi] at this; omega
theorem tot_eq (xs : List (List Int)) : tot xs = (xs.map List.length).sum := rfl
attribute [irreducible] tot
theorem c_szInt64SS (xs : List (List Int)) (n : Int) (h : xs.length ≤ 9223372036854775807) (h2 : ∀ x ∈ xs, x.length ≤ 9223372036854775807) (hn : 0 ≤ n ∧ n ≤ 1048576) :
    Fn Tryz.prog 7 [eIss xs, eI n] true (· = eI (if n < xs.length + tot xs then -1 else n - (xs.length + tot xs))) := by
  refine Fn.of_vcN 27 [.tmp 4] Tryz.func7 rfl rfl rfl rfl rfl (of_decide_eq_true rfl) ?_
  simp -dsimp -implicitDefEqProofs only [go_sem, ↓reduceIte, Nat.reduceEqDiff, Nat.reduceLT, Nat.reduceAdd, Nat.reduceMul, Nat.reduceLeDiff, Nat.le_refl, Int.natCast_zero, Int.toNat_natCast, Int.reduceToNat]
  repeat' first
    | (refine Br.intro (fun _ => ?_) (fun _ => ?_) <;> try simp -dsimp -implicitDefEqProofs only [go_sem, ↓reduceIte, Nat.reduceEqDiff, Nat.reduceLT, Nat.reduceAdd, Nat.reduceMul, Nat.reduceLeDiff, Nat.le_refl, Int.natCast_zero, Int.toNat_natCast, Int.reduceToNat, *])
    | (with_reducible refine And.intro ?_ ?_)
  · refine ⟨?_, ?_⟩ <;> omega
  · rw [if_pos]
    simp_all; omega
  rename_i hb
  have hb : (0 : Int) ≤ n - xs.length := by simpa using hb
  refine Later.up [0] [14, 23] [] xs.length (fun i => (xs.length : Int) + tot (xs.take i) ≤ n) (fun i => [(5, eI i), (1, eI (n - xs.length - tot (xs.take i)))]) (fun _ => []) (by rw [List.take_zero, tot_nil]; omega) ?_ rfl (fun i hi hI => ?_) (fun hI => ?_)
  · simp -dsimp -implicitDefEqProofs only [go_sem, ↓reduceIte, Nat.reduceEqDiff, Nat.reduceLT, Nat.reduceAdd, Nat.reduceMul, Nat.reduceLeDiff, Nat.le_refl, Int.natCast_zero, Int.toNat_natCast, Int.reduceToNat, List.take_zero, tot_nil]
    simp
  · have hx := h2 xs[i] (List.getElem_mem hi)
    have ht := tot_take xs i hi
    have hl := tot_le xs (i + 1)
    simp -dsimp -implicitDefEqProofs only [pick_nil, pick_cons, look_nil, look_cons, dropB_nil, dropB_cons, inD_nil, inD_cons, inE_nil, inE_cons, or_t_l, or_f_l, Nat.reduceBEq, Nat.reduceDiv, Nat.reduceAdd, beq_self_eq_true, Bool.false_eq_true, Bool.or_false, ↓reduceIte, Nat.reduceEqDiff, List.cons_append, List.nil_append]
    simp -dsimp -implicitDefEqProofs only [go_sem, ↓reduceIte, Nat.reduceEqDiff, Nat.reduceLT, Nat.reduceAdd, Nat.reduceMul, Nat.reduceLeDiff, Nat.le_refl, Int.natCast_zero, Int.toNat_natCast, Int.reduceToNat, lt_len hi, get_some hi]
    repeat' (with_reducible refine And.intro ?_ ?_)
    all_goals try omega
    refine sCallT_one (c_szInt64S xs[i] _ hx (by omega)) ?_
    by_cases hlt : (n - xs.length - tot (xs.take i) : Int) < xs[i].length
    · rw [if_pos hlt]
      simp -dsimp -implicitDefEqProofs only [go_sem, ↓reduceIte, Nat.reduceEqDiff, Nat.reduceLT, Nat.reduceAdd, Nat.reduceMul, Nat.reduceLeDiff, Nat.le_refl, Int.natCast_zero, Int.toNat_natCast, Int.reduceToNat]
      repeat' (refine Br.intro (fun _ => ?_) (fun _ => ?_) <;> try simp -dsimp -implicitDefEqProofs only [go_sem, ↓reduceIte, Nat.reduceEqDiff, Nat.reduceLT, Nat.reduceAdd, Nat.reduceMul, Nat.reduceLeDiff, Nat.le_refl, Int.natCast_zero, Int.toNat_natCast, Int.reduceToNat, *])
      · rw [if_pos (by omega)]
      · simp_all
    · rw [if_neg hlt]
      simp -dsimp -implicitDefEqProofs only [go_sem, ↓reduceIte, Nat.reduceEqDiff, Nat.reduceLT, Nat.reduceAdd, Nat.reduceMul, Nat.reduceLeDiff, Nat.le_refl, Int.natCast_zero, Int.toNat_natCast, Int.reduceToNat]
      repeat' first
        | (refine Br.intro (fun _ => ?_) (fun _ => ?_) <;> try simp -dsimp -implicitDefEqProofs only [go_sem, ↓reduceIte, Nat.reduceEqDiff, Nat.reduceLT, Nat.reduceAdd, Nat.reduceMul, Nat.reduceLeDiff, Nat.le_refl, Int.natCast_zero, Int.toNat_natCast, Int.reduceToNat, *])
        | (with_reducible refine And.intro ?_ ?_)
      all_goals first
        | omega
        | (refine ⟨?_, ?_⟩ <;> omega)
        | (simp only [Value.int.injEq, true_and]; omega)
        | (simp_all; omega)
        | trace_state
  · simp -dsimp -implicitDefEqProofs only [pick_nil, pick_cons, look_nil, look_cons, dropB_nil, dropB_cons, inD_nil, inD_cons, inE_nil, inE_cons, or_t_l, or_f_l, Nat.reduceBEq, Nat.reduceDiv, Nat.reduceAdd, beq_self_eq_true, Bool.false_eq_true, Bool.or_false, ↓reduceIte, Nat.reduceEqDiff, List.cons_append, List.nil_append]
    rw [List.take_length] at hI ⊢
    simp -dsimp -implicitDefEqProofs only [go_sem, ↓reduceIte, Nat.reduceEqDiff, Nat.reduceLT, Nat.reduceAdd, Nat.reduceMul, Nat.reduceLeDiff, Nat.le_refl, Int.natCast_zero, Int.toNat_natCast, Int.reduceToNat, nlt_len]
    rw [if_neg (by omega)]
    rw [show (n - ↑xs.length - ↑(tot xs) : Int) = n - (↑xs.length + ↑(tot xs)) by omega]
theorem c_toInt64SS (xs : List (List Int)) (h : xs.length ≤ 1048576) (h2 : ∀ x ∈ xs, x.length ≤ 1048576) : Fn Tryz.prog 11 [eIss xs] true (· = eIss xs) := by
  refine Fn.of_vcN 23 [.tmp 2] Tryz.func11 rfl rfl rfl rfl rfl (of_decide_eq_true rfl) ?_
  simp -dsimp -implicitDefEqProofs only [go_sem, ↓reduceIte, Nat.reduceEqDiff, Nat.reduceLT, Nat.reduceAdd, Nat.reduceMul, Nat.reduceLeDiff, Nat.le_refl, Int.natCast_zero, Int.toNat_natCast, Int.reduceToNat]
  repeat' (with_reducible refine And.intro ?_ ?_)
  all_goals try omega
  refine Later.up [0, 3] [10, 20] [7] xs.length (fun _ => True) (fun i => [(4, eI i)]) (fun i => [(7, .row 0 ⟨1, false⟩ true (fill eIs (.val (.slice none 0 0)) xs i))]) trivial ?_ rfl (fun i hi _ => ?_) (fun _ => ?_)
  · simp -dsimp -implicitDefEqProofs only [go_sem, ↓reduceIte, Nat.reduceEqDiff, Nat.reduceLT, Nat.reduceAdd, Nat.reduceMul, Nat.reduceLeDiff, Nat.le_refl, Int.natCast_zero, Int.toNat_natCast, Int.reduceToNat, fill_zero]
  · have hx := h2 xs[i] (List.getElem_mem hi)
    simp -dsimp -implicitDefEqProofs only [pick_nil, pick_cons, look_nil, look_cons, dropB_nil, dropB_cons, inD_nil, inD_cons, inE_nil, inE_cons, or_t_l, or_f_l, Nat.reduceBEq, Nat.reduceDiv, Nat.reduceAdd, beq_self_eq_true, Bool.false_eq_true, Bool.or_false, ↓reduceIte, Nat.reduceEqDiff, List.cons_append, List.nil_append]
    simp -dsimp -implicitDefEqProofs only [go_sem, ↓reduceIte, Nat.reduceEqDiff, Nat.reduceLT, Nat.reduceAdd, Nat.reduceMul, Nat.reduceLeDiff, Nat.le_refl, Int.natCast_zero, Int.toNat_natCast, Int.reduceToNat, lt_len hi, get_some hi, fill_get _ _ _ _ hi, fill_set _ _ _ _ hi]
    repeat' first
      | (with_reducible refine And.intro ?_ ?_)
      | (refine sCallT_one (c_toInt64S xs[i] hx) ?_; try simp -dsimp -implicitDefEqProofs only [go_sem, ↓reduceIte, Nat.reduceEqDiff, Nat.reduceLT, Nat.reduceAdd, Nat.reduceMul, Nat.reduceLeDiff, Nat.le_refl, Int.natCast_zero, Int.toNat_natCast, Int.reduceToNat, *, fill_get _ _ _ _ hi, fill_set _ _ _ _ hi])
    all_goals first
      | omega
      | (refine ⟨?_, ?_⟩ <;> omega)
      | (simp; done)
      | (rw [fill_len _ _ _ _ (by omega)]; omega)
      | trace_state
  · simp -dsimp -implicitDefEqProofs only [pick_nil, pick_cons, look_nil, look_cons, dropB_nil, dropB_cons, inD_nil, inD_cons, inE_nil, inE_cons, or_t_l, or_f_l, Nat.reduceBEq, Nat.reduceDiv, Nat.reduceAdd, beq_self_eq_true, Bool.false_eq_true, Bool.or_false, ↓reduceIte, Nat.reduceEqDiff, List.cons_append, List.nil_append]
    simp -dsimp -implicitDefEqProofs only [go_sem, ↓reduceIte, Nat.reduceEqDiff, Nat.reduceLT, Nat.reduceAdd, Nat.reduceMul, Nat.reduceLeDiff, Nat.le_refl, Int.natCast_zero, Int.toNat_natCast, Int.reduceToNat, nlt_len, fill_all]
    repeat' (with_reducible refine And.intro ?_ ?_)
    all_goals first
      | omega
      | decide
      | (simp; done)
theorem c_eqInt64SS (xs ys : List (List Int)) (h : xs.length ≤ 9223372036854775807) (h2 : ∀ x ∈ xs, x.length ≤ 9223372036854775807) : Fn Tryz.prog 16 [eIss xs, eIss ys] true (· = eB (decide (xs = ys))) := by
  refine Fn.of_vcN 27 [.tmp 4] Tryz.func16 rfl rfl rfl rfl rfl (of_decide_eq_true rfl) ?_
  simp -dsimp -implicitDefEqProofs only [go_sem, ↓reduceIte, Nat.reduceEqDiff, Nat.reduceLT, Nat.reduceAdd, Nat.reduceMul, Nat.reduceLeDiff, Nat.le_refl, Int.natCast_zero, Int.toNat_natCast, Int.reduceToNat]
  repeat' (refine Br.intro (fun _ => ?_) (fun _ => ?_) <;> try simp -dsimp -implicitDefEqProofs only [go_sem, ↓reduceIte, Nat.reduceEqDiff, Nat.reduceLT, Nat.reduceAdd, Nat.reduceMul, Nat.reduceLeDiff, Nat.le_refl, Int.natCast_zero, Int.toNat_natCast, Int.reduceToNat, *])
  · rw [decide_eq_false]; intro e; subst e; simp_all
  have h1 : xs.length = ys.length := by simp_all <;> omega
  refine Later.up [0, 1] [13, 25] [] xs.length (fun i => xs.take i = ys.take i) (fun i => [(5, eI i)]) (fun _ => []) rfl ?_ rfl (fun i hi hI => ?_) (fun hI => ?_)
  · simp -dsimp -implicitDefEqProofs only [go_sem, ↓reduceIte, Nat.reduceEqDiff, Nat.reduceLT, Nat.reduceAdd, Nat.reduceMul, Nat.reduceLeDiff, Nat.le_refl, Int.natCast_zero, Int.toNat_natCast, Int.reduceToNat]
  · have hx := h2 xs[i] (List.getElem_mem hi)
    simp -dsimp -implicitDefEqProofs only [pick_nil, pick_cons, look_nil, look_cons, dropB_nil, dropB_cons, inD_nil, inD_cons, inE_nil, inE_cons, or_t_l, or_f_l, Nat.reduceBEq, Nat.reduceDiv, Nat.reduceAdd, beq_self_eq_true, Bool.false_eq_true, Bool.or_false, ↓reduceIte, Nat.reduceEqDiff, List.cons_append, List.nil_append]
    have hy : i < ys.length := by omega
    have no : xs[i] ≠ ys[i] → decide (xs = ys) = false := eq_no hi hy
    have yes : xs[i] = ys[i] → xs.take (i + 1) = ys.take (i + 1) := eq_yes hi hy hI
    simp -dsimp -implicitDefEqProofs only [go_sem, ↓reduceIte, Nat.reduceEqDiff, Nat.reduceLT, Nat.reduceAdd, Nat.reduceMul, Nat.reduceLeDiff, Nat.le_refl, Int.natCast_zero, Int.toNat_natCast, Int.reduceToNat, lt_len hi, get_some hi, get_some hy]
    repeat' first
      | (refine Br.intro (fun _ => ?_) (fun _ => ?_) <;> try simp -dsimp -implicitDefEqProofs only [go_sem, ↓reduceIte, Nat.reduceEqDiff, Nat.reduceLT, Nat.reduceAdd, Nat.reduceMul, Nat.reduceLeDiff, Nat.le_refl, Int.natCast_zero, Int.toNat_natCast, Int.reduceToNat, *])
      | (with_reducible refine And.intro ?_ ?_)
      | (refine Later.draw mixed rfl ?_; simp -dsimp -implicitDefEqProofs only [go_sem, ↓reduceIte, Nat.reduceEqDiff, Nat.reduceLT, Nat.reduceAdd, Nat.reduceMul, Nat.reduceLeDiff, Nat.le_refl, Int.natCast_zero, Int.toNat_natCast, Int.reduceToNat, get_some hi, get_some hy])
      | (refine sCallT_one (c_eqInt64S xs[i] ys[i] hx) ?_; try simp -dsimp -implicitDefEqProofs only [go_sem, ↓reduceIte, Nat.reduceEqDiff, Nat.reduceLT, Nat.reduceAdd, Nat.reduceMul, Nat.reduceLeDiff, Nat.le_refl, Int.natCast_zero, Int.toNat_natCast, Int.reduceToNat, *])
      | (refine sCallX_one (c_eqInt64S xs[i] ys[i] hx) ?_; try simp -dsimp -implicitDefEqProofs only [go_sem, ↓reduceIte, Nat.reduceEqDiff, Nat.reduceLT, Nat.reduceAdd, Nat.reduceMul, Nat.reduceLeDiff, Nat.le_refl, Int.natCast_zero, Int.toNat_natCast, Int.reduceToNat, *])
    all_goals first
      | omega
      | (refine ⟨?_, ?_⟩ <;> omega)
      | rfl
      | (simp; done)
      | (rw [no]; clear no yes; simp_all; done)
      | (refine yes ?_; clear no yes; simp_all; done)
      | trace_state
  · simp -dsimp -implicitDefEqProofs only [pick_nil, pick_cons, look_nil, look_cons, dropB_nil, dropB_cons, inD_nil, inD_cons, inE_nil, inE_cons, or_t_l, or_f_l, Nat.reduceBEq, Nat.reduceDiv, Nat.reduceAdd, beq_self_eq_true, Bool.false_eq_true, Bool.or_false, ↓reduceIte, Nat.reduceEqDiff, List.cons_append, List.nil_append]
    simp -dsimp -implicitDefEqProofs only [go_sem, ↓reduceIte, Nat.reduceEqDiff, Nat.reduceLT, Nat.reduceAdd, Nat.reduceMul, Nat.reduceLeDiff, Nat.le_refl, Int.natCast_zero, Int.toNat_natCast, Int.reduceToNat, nlt_len]
    have h3 : xs = ys := by rw [← List.take_length (l := xs), hI, h1, List.take_length]
    simp [h3]
/-- where the marks of the j-th row begin -/
def mrow (k : Int) (ns : List Nat) (j : Nat) : List Int := markLInt64S (k + (ns.take j).sum) (ns.getD j 0)
def markLL (k : Int) (ns : List Nat) : List (List Int) := (List.range ns.length).map (mrow k ns)
theorem sum_take (ns : List Nat) (i : Nat) (h : i < ns.length) : (ns.take (i + 1)).sum = (ns.take i).sum + ns[i] := by
  rw [List.take_succ_eq_append_getElem h, List.sum_append]; simp
theorem sum_le (ns : List Nat) (i : Nat) : (ns.take i).sum ≤ ns.sum := by
  have : ns.sum = (ns.take i).sum + (ns.drop i).sum := by rw [← List.sum_append, List.take_append_drop]
  omega
theorem c_markInt64SS (xs : List (List Int)) (k : Int) (v : Nat) (hk : 0 ≤ k ∧ k ≤ 100000000000) (h : xs.length ≤ 1000000000) (h2 : (xs.map List.length).sum ≤ 1000000000) :
    FnM Tryz.prog 19 [.row v ⟨1, false⟩ true (xs.map eIs)] [.ref 1000000000 v 0 xs.length, eI k]
      (fun x io => x = eI (k + (xs.map List.length).sum) ∧ io = [.row v ⟨1, false⟩ true ((markLL k (xs.map List.length)).map eIs)]) := by
  refine FnM.of_vcN 19 [.tmp 4] Tryz.func19 rfl rfl rfl rfl rfl (of_decide_eq_true rfl) ?_
  simp -dsimp -implicitDefEqProofs only [go_sem, ↓reduceIte, Nat.reduceEqDiff, Nat.reduceLT, Nat.reduceAdd, Nat.reduceMul, Nat.reduceLeDiff, Nat.le_refl, Int.natCast_zero, Int.toNat_natCast, Int.reduceToNat]
  refine Later.up [0] [8, 17] [1000000000] xs.length (fun _ => True) (fun i => [(5, eI i), (1, eI (k + ((xs.map List.length).take i).sum))]) (fun i => [(1000000000, .row v ⟨1, false⟩ true (mk1 (fun j => eIs (mrow k (xs.map List.length) j)) (xs.map eIs) i))]) trivial ?_ rfl (fun i hi _ => ?_) (fun _ => ?_)
  · simp -dsimp -implicitDefEqProofs only [go_sem, ↓reduceIte, Nat.reduceEqDiff, Nat.reduceLT, Nat.reduceAdd, Nat.reduceMul, Nat.reduceLeDiff, Nat.le_refl, Int.natCast_zero, Int.toNat_natCast, Int.reduceToNat, mk1_zero, List.take_zero, List.sum_nil]
    simp
  · have hi2 : i < (xs.map eIs).length := by simpa using hi
    have hi3 : i < (xs.map List.length).length := by simpa using hi
    have g0 := mk1_get (fun j => eIs (mrow k (xs.map List.length) j)) (xs.map eIs) i hi2
    have g1 := mk1_set (fun j => eIs (mrow k (xs.map List.length) j)) (xs.map eIs) i hi2
    have s1 := sum_take (xs.map List.length) i hi3
    have s2 := sum_le (xs.map List.length) (i + 1)
    rw [List.getElem_map] at g0 s1
    have hr : mrow k (xs.map List.length) i = markLInt64S (k + ((xs.map List.length).take i).sum) xs[i].length := by
      rw [mrow, List.getD_eq_getElem?_getD, List.getElem?_eq_getElem hi3, List.getElem_map]; rfl
    simp -dsimp -implicitDefEqProofs only [pick_nil, pick_cons, look_nil, look_cons, dropB_nil, dropB_cons, inD_nil, inD_cons, inE_nil, inE_cons, or_t_l, or_f_l, Nat.reduceBEq, Nat.reduceDiv, Nat.reduceAdd, beq_self_eq_true, Bool.false_eq_true, Bool.or_false, ↓reduceIte, Nat.reduceEqDiff, List.cons_append, List.nil_append]
    simp -dsimp -implicitDefEqProofs only [go_sem, ↓reduceIte, Nat.reduceEqDiff, Nat.reduceLT, Nat.reduceAdd, Nat.reduceMul, Nat.reduceLeDiff, Nat.le_refl, Int.natCast_zero, Int.toNat_natCast, Int.reduceToNat, lt_len hi, g0, mk1_len]
    repeat' (with_reducible refine And.intro ?_ ?_)
    all_goals first
      | omega
      | (rw [mk1_len _ _ _ (by omega)]; simpa using hi2)
      | skip
    intro u
    refine sCallT_in 1000000000 rfl g0 rfl (c_markInt64S xs[i] (k + ((xs.map List.length).take i).sum) 0 true (by omega) (by omega)) (by simp) (by simp [markLInt64S]) ?_
    rw [show (AV.arr ⟨1, false⟩ ((markLInt64S (k + ((xs.map List.length).take i).sum) xs[i].length).map eI)) = eIs (mrow k (xs.map List.length) i) by rw [hr]]
    simp -dsimp -implicitDefEqProofs only [go_sem, ↓reduceIte, Nat.reduceEqDiff, Nat.reduceLT, Nat.reduceAdd, Nat.reduceMul, Nat.reduceLeDiff, Nat.le_refl, Int.natCast_zero, Int.toNat_natCast, Int.reduceToNat, g1]
    repeat' (with_reducible refine And.intro ?_ ?_)
    all_goals first
      | omega
      | (refine ⟨?_, ?_⟩ <;> omega)
      | (simp; done)
      | (simp only [Value.int.injEq, true_and]; omega)
      | trace_state
  · simp -dsimp -implicitDefEqProofs only [pick_nil, pick_cons, look_nil, look_cons, dropB_nil, dropB_cons, inD_nil, inD_cons, inE_nil, inE_cons, or_t_l, or_f_l, Nat.reduceBEq, Nat.reduceDiv, Nat.reduceAdd, beq_self_eq_true, Bool.false_eq_true, Bool.or_false, ↓reduceIte, Nat.reduceEqDiff, List.cons_append, List.nil_append]
    simp -dsimp -implicitDefEqProofs only [go_sem, ↓reduceIte, Nat.reduceEqDiff, Nat.reduceLT, Nat.reduceAdd, Nat.reduceMul, Nat.reduceLeDiff, Nat.le_refl, Int.natCast_zero, Int.toNat_natCast, Int.reduceToNat, nlt_len, mk1_all _ _ _ (show (xs.map eIs).length ≤ xs.length by simp)]
    repeat' (with_reducible refine And.intro ?_ ?_)
    all_goals first
      | (simp; done)
      | (simp [markLL, List.map_map, Function.comp_def]; done)
      | (rw [show ((xs.map List.length).take xs.length) = xs.map List.length from List.take_of_length_le (by simp)]; done)
      | trace_state
structure MkM where
  chambers : Int
  depths : Int
  step : Int
  same : Int
  least : Int
  deriving DecidableEq
abbrev eMk (m : MkM) : AV := .agg [eI m.chambers, eI m.depths, eI m.step, eI m.same, eI m.least]
theorem c_toMaker (t : MkM) : Fn Tryz.prog 40 [eMk t] true (· = eMk t) := by
  refine Fn.of_vcN 20 [.cell 2 34] Tryz.func40 rfl rfl rfl rfl rfl (of_decide_eq_true rfl) ?_
  simp -dsimp -implicitDefEqProofs only [go_sem, ↓reduceIte, Nat.reduceEqDiff, Nat.reduceLT, Nat.reduceAdd, Nat.reduceMul, Nat.reduceLeDiff, Nat.le_refl, Int.natCast_zero, Int.toNat_natCast, Int.reduceToNat]
  repeat' (with_reducible refine And.intro ?_ ?_)
  all_goals first | omega | (simp; done)
theorem c_eqMaker (t u : MkM) : Fn Tryz.prog 46 [eMk t, eMk u] true (· = eB (decide (t = u))) := by
  refine Fn.of_vcN 30 [.tmp 4] Tryz.func46 rfl rfl rfl rfl rfl (of_decide_eq_true rfl) ?_
  simp -dsimp -implicitDefEqProofs only [go_sem, ↓reduceIte, Nat.reduceEqDiff, Nat.reduceLT, Nat.reduceAdd, Nat.reduceMul, Nat.reduceLeDiff, Nat.le_refl, Int.natCast_zero, Int.toNat_natCast, Int.reduceToNat]
  repeat' (refine Br.intro (fun _ => ?_) (fun _ => ?_) <;> try simp -dsimp -implicitDefEqProofs only [go_sem, ↓reduceIte, Nat.reduceEqDiff, Nat.reduceLT, Nat.reduceAdd, Nat.reduceMul, Nat.reduceLeDiff, Nat.le_refl, Int.natCast_zero, Int.toNat_natCast, Int.reduceToNat, *])
  all_goals (cases t; cases u; simp_all)
end Go.Vc


/-
  Contracts of the functions on makers; rising lists; members of lists.
-/
set_option linter.unusedVariables false
set_option linter.unusedSimpArgs false
set_option linter.unnecessarySimpa false
namespace Go.Vc
open Go.Proofs
set_option maxRecDepth 100000
def isMk (m : MkM) : Bool := isIn m.chambers 2 6 && isIn m.depths 2 8 && isIn m.step 1 (m.depths - 1) && isIn m.same 1 m.chambers && isIn m.least 1 (if m.depths < m.chambers then m.depths else m.chambers)
theorem isMk_num {m : MkM} (h : isMk m = true) : (2 ≤ m.chambers ∧ m.chambers ≤ 6) ∧ 2 ≤ m.depths ∧ m.depths ≤ 8 := by
  simp [isMk, isIn] at h; omega
theorem c_sIsMaker (m : MkM) : Fn Tryz.prog 71 [eMk m] true (· = eB (isMk m)) := by
  refine Fn.of_vcN 36 [.tmp 2] Tryz.func71 rfl rfl rfl rfl rfl (of_decide_eq_true rfl) ?_
  simp -dsimp -implicitDefEqProofs only [go_sem, ↓reduceIte, Nat.reduceEqDiff, Nat.reduceLT, Nat.reduceAdd, Nat.reduceMul, Nat.reduceLeDiff, Nat.le_refl, Int.natCast_zero, Int.toNat_natCast, Int.reduceToNat]
  repeat' first
    | (refine Br.intro (fun _ => ?_) (fun _ => ?_) <;> try simp -dsimp -implicitDefEqProofs only [go_sem, ↓reduceIte, Nat.reduceEqDiff, Nat.reduceLT, Nat.reduceAdd, Nat.reduceMul, Nat.reduceLeDiff, Nat.le_refl, Int.natCast_zero, Int.toNat_natCast, Int.reduceToNat, *])
    | (with_reducible refine And.intro ?_ ?_)
    | (refine sCallT_one (c_l01In _ _ _) ?_; try simp -dsimp -implicitDefEqProofs only [go_sem, ↓reduceIte, Nat.reduceEqDiff, Nat.reduceLT, Nat.reduceAdd, Nat.reduceMul, Nat.reduceLeDiff, Nat.le_refl, Int.natCast_zero, Int.toNat_natCast, Int.reduceToNat, *])
  all_goals first
    | (simp_all [isMk, isIn, I64]; done)
    | (simp_all [isMk, isIn, I64]; omega)
    | trace_state
theorem c_iIsMaker (m : MkM) : Fn Tryz.prog 99 [eMk m] true (· = eB (isMk m)) := by
  refine Fn.of_vcN 36 [.tmp 2] Tryz.func99 rfl rfl rfl rfl rfl (of_decide_eq_true rfl) ?_
  simp -dsimp -implicitDefEqProofs only [go_sem, ↓reduceIte, Nat.reduceEqDiff, Nat.reduceLT, Nat.reduceAdd, Nat.reduceMul, Nat.reduceLeDiff, Nat.le_refl, Int.natCast_zero, Int.toNat_natCast, Int.reduceToNat]
  repeat' first
    | (refine Br.intro (fun _ => ?_) (fun _ => ?_) <;> try simp -dsimp -implicitDefEqProofs only [go_sem, ↓reduceIte, Nat.reduceEqDiff, Nat.reduceLT, Nat.reduceAdd, Nat.reduceMul, Nat.reduceLeDiff, Nat.le_refl, Int.natCast_zero, Int.toNat_natCast, Int.reduceToNat, *])
    | (with_reducible refine And.intro ?_ ?_)
    | (refine sCallT_one (c_within _ _ _) ?_; try simp -dsimp -implicitDefEqProofs only [go_sem, ↓reduceIte, Nat.reduceEqDiff, Nat.reduceLT, Nat.reduceAdd, Nat.reduceMul, Nat.reduceLeDiff, Nat.le_refl, Int.natCast_zero, Int.toNat_natCast, Int.reduceToNat, *])
  all_goals first
    | (simp_all [isMk, isIn, I64]; done)
    | (simp_all [isMk, isIn, I64]; omega)
    | trace_state
def riseAt (xs : List Int) (n : Int) (i : Nat) : Bool := decide (0 ≤ xs.getD i 0) && decide (xs.getD i 0 < n) && (i == 0 || decide (xs.getD (i - 1) 0 < xs.getD i 0))
def rises (xs : List Int) (n : Int) : Bool := (List.range xs.length).all (riseAt xs n)
theorem c_l01Rises (xs : List Int) (n : Int) (h : xs.length ≤ 9223372036854775807) : Fn Tryz.prog 94 [eIs xs, eI n] true (· = eB (rises xs n)) := by
  refine Fn.of_vcN 41 [.tmp 4] Tryz.func94 rfl rfl rfl rfl rfl (of_decide_eq_true rfl) ?_
  simp -dsimp -implicitDefEqProofs only [go_sem, ↓reduceIte, Nat.reduceEqDiff, Nat.reduceLT, Nat.reduceAdd, Nat.reduceMul, Nat.reduceLeDiff, Nat.le_refl, Int.natCast_zero, Int.toNat_natCast, Int.reduceToNat]
  refine Later.up [0, 1] [8] [] xs.length (fun i => (List.range i).all (riseAt xs n)) (fun i => [(5, eI i)]) (fun _ => []) (by simp) ?_ rfl (fun i hi hI => ?_) (fun hI => ?_)
  · simp -dsimp -implicitDefEqProofs only [go_sem, ↓reduceIte, Nat.reduceEqDiff, Nat.reduceLT, Nat.reduceAdd, Nat.reduceMul, Nat.reduceLeDiff, Nat.le_refl, Int.natCast_zero, Int.toNat_natCast, Int.reduceToNat]
  · have no : riseAt xs n i = false → rises xs n = false := range_all_no hi
    have yes : riseAt xs n i = true → (List.range (i + 1)).all (riseAt xs n) = true := fun h => by rw [range_all_succ, hI, h]; rfl
    have hi' : i - 1 < xs.length := by omega
    have gi := get_some hi
    have li := lt_len hi
    by_cases hi0 : 0 < i
    rotate_left
    · have g3 : decide ((i : Int) > 0) = false := by simp; omega
      simp -dsimp -implicitDefEqProofs only [pick_nil, pick_cons, look_nil, look_cons, dropB_nil, dropB_cons, inD_nil, inD_cons, inE_nil, inE_cons, or_t_l, or_f_l, Nat.reduceBEq, Nat.reduceDiv, Nat.reduceAdd, beq_self_eq_true, Bool.false_eq_true, Bool.or_false, ↓reduceIte, Nat.reduceEqDiff, List.cons_append, List.nil_append]
      simp -dsimp -implicitDefEqProofs only [go_sem, ↓reduceIte, Nat.reduceEqDiff, Nat.reduceLT, Nat.reduceAdd, Nat.reduceMul, Nat.reduceLeDiff, Nat.le_refl, Int.natCast_zero, Int.toNat_natCast, Int.reduceToNat, lt_len hi, get_some hi, g3]
      repeat' first
        | (refine Br.intro (fun _ => ?_) (fun _ => ?_) <;> try simp -dsimp -implicitDefEqProofs only [go_sem, ↓reduceIte, Nat.reduceEqDiff, Nat.reduceLT, Nat.reduceAdd, Nat.reduceMul, Nat.reduceLeDiff, Nat.le_refl, Int.natCast_zero, Int.toNat_natCast, Int.reduceToNat, *])
        | (with_reducible refine And.intro ?_ ?_)
        | (refine Later.draw mixed rfl ?_; simp -dsimp -implicitDefEqProofs only [go_sem, ↓reduceIte, Nat.reduceEqDiff, Nat.reduceLT, Nat.reduceAdd, Nat.reduceMul, Nat.reduceLeDiff, Nat.le_refl, Int.natCast_zero, Int.toNat_natCast, Int.reduceToNat, lt_len hi, get_some hi, g3])
      all_goals first
        | omega
        | (refine ⟨?_, ?_⟩ <;> omega)
        | (simp; done)
        | rfl
        | (rw [no]; clear no yes; simp_all [riseAt]; done) | (rw [no]; clear no yes; simp_all [riseAt]; omega) | (refine yes ?_; clear no yes; simp_all [riseAt]; done) | (refine yes ?_; clear no yes; simp_all [riseAt]; omega)
        | (rw [← List.range_succ]; refine yes ?_; clear no yes; simp_all [riseAt]; done)
        | (rw [← List.range_succ]; refine yes ?_; clear no yes; simp_all [riseAt]; omega)
        | (have e0 : i = 0 := by omega
           clear hi0; subst e0; first | (rw [no]; clear no yes; simp_all [riseAt]; done) | (rw [no]; clear no yes; simp_all [riseAt]; omega) | (refine yes ?_; clear no yes; simp_all [riseAt]; done) | (refine yes ?_; clear no yes; simp_all [riseAt]; omega))
        | trace_state
    · have g2 : xs[((i : Int) - 1).toNat]? = some xs[i - 1] := by rw [pred_toNat hi0]; exact get_some hi'
      have g3 : decide ((i : Int) > 0) = true := by simp; omega
      simp -dsimp -implicitDefEqProofs only [pick_nil, pick_cons, look_nil, look_cons, dropB_nil, dropB_cons, inD_nil, inD_cons, inE_nil, inE_cons, or_t_l, or_f_l, Nat.reduceBEq, Nat.reduceDiv, Nat.reduceAdd, beq_self_eq_true, Bool.false_eq_true, Bool.or_false, ↓reduceIte, Nat.reduceEqDiff, List.cons_append, List.nil_append]
      simp -dsimp -implicitDefEqProofs only [go_sem, ↓reduceIte, Nat.reduceEqDiff, Nat.reduceLT, Nat.reduceAdd, Nat.reduceMul, Nat.reduceLeDiff, Nat.le_refl, Int.natCast_zero, Int.toNat_natCast, Int.reduceToNat, lt_len hi, get_some hi, g2, g3]
      repeat' first
        | (refine Br.intro (fun _ => ?_) (fun _ => ?_) <;> try simp -dsimp -implicitDefEqProofs only [go_sem, ↓reduceIte, Nat.reduceEqDiff, Nat.reduceLT, Nat.reduceAdd, Nat.reduceMul, Nat.reduceLeDiff, Nat.le_refl, Int.natCast_zero, Int.toNat_natCast, Int.reduceToNat, *])
        | (with_reducible refine And.intro ?_ ?_)
        | (refine Later.draw mixed rfl ?_; simp -dsimp -implicitDefEqProofs only [go_sem, ↓reduceIte, Nat.reduceEqDiff, Nat.reduceLT, Nat.reduceAdd, Nat.reduceMul, Nat.reduceLeDiff, Nat.le_refl, Int.natCast_zero, Int.toNat_natCast, Int.reduceToNat, lt_len hi, get_some hi, g2, g3])
      all_goals first
        | omega
        | (refine ⟨?_, ?_⟩ <;> omega)
        | (simp; done)
        | rfl
        | (rw [no]; clear no yes; simp_all [riseAt]; done) | (rw [no]; clear no yes; simp_all [riseAt]; omega) | (refine yes ?_; clear no yes; simp_all [riseAt]; done) | (refine yes ?_; clear no yes; simp_all [riseAt]; omega)
        | (rw [← List.range_succ]; refine yes ?_; clear no yes; simp_all [riseAt]; done)
        | (rw [← List.range_succ]; refine yes ?_; clear no yes; simp_all [riseAt]; omega)
        | (have e0 : i = 0 := by omega
           clear hi0; subst e0; first | (rw [no]; clear no yes; simp_all [riseAt]; done) | (rw [no]; clear no yes; simp_all [riseAt]; omega) | (refine yes ?_; clear no yes; simp_all [riseAt]; done) | (refine yes ?_; clear no yes; simp_all [riseAt]; omega))
        | trace_state
  · simp -dsimp -implicitDefEqProofs only [pick_nil, pick_cons, look_nil, look_cons, dropB_nil, dropB_cons, inD_nil, inD_cons, inE_nil, inE_cons, or_t_l, or_f_l, Nat.reduceBEq, Nat.reduceDiv, Nat.reduceAdd, beq_self_eq_true, Bool.false_eq_true, Bool.or_false, ↓reduceIte, Nat.reduceEqDiff, List.cons_append, List.nil_append]
    simp -dsimp -implicitDefEqProofs only [go_sem, ↓reduceIte, Nat.reduceEqDiff, Nat.reduceLT, Nat.reduceAdd, Nat.reduceMul, Nat.reduceLeDiff, Nat.le_refl, Int.natCast_zero, Int.toNat_natCast, Int.reduceToNat, nlt_len]
    rw [rises, hI]
theorem c_IsRising (xs : List Int) (n : Int) (h : xs.length ≤ 9223372036854775807) : Fn Tryz.prog 121 [eIs xs, eI n] true (· = eB (rises xs n)) := by
  refine Fn.of_vcN 35 [.tmp 4] Tryz.func121 rfl rfl rfl rfl rfl (of_decide_eq_true rfl) ?_
  simp -dsimp -implicitDefEqProofs only [go_sem, ↓reduceIte, Nat.reduceEqDiff, Nat.reduceLT, Nat.reduceAdd, Nat.reduceMul, Nat.reduceLeDiff, Nat.le_refl, Int.natCast_zero, Int.toNat_natCast, Int.reduceToNat]
  refine Later.up [0, 1, 7, 8] [] [] xs.length (fun i => (List.range i).all (riseAt xs n)) (fun i => [(9, eI i)]) (fun _ => []) (by simp) ?_ rfl (fun i hi hI => ?_) (fun hI => ?_)
  · simp -dsimp -implicitDefEqProofs only [go_sem, ↓reduceIte, Nat.reduceEqDiff, Nat.reduceLT, Nat.reduceAdd, Nat.reduceMul, Nat.reduceLeDiff, Nat.le_refl, Int.natCast_zero, Int.toNat_natCast, Int.reduceToNat]
  · have no : riseAt xs n i = false → rises xs n = false := range_all_no hi
    have yes : riseAt xs n i = true → (List.range (i + 1)).all (riseAt xs n) = true := fun h => by rw [range_all_succ, hI, h]; rfl
    have hi' : i - 1 < xs.length := by omega
    have gi := get_some hi
    have li := lt_len hi
    by_cases hi0 : 0 < i
    rotate_left
    · have g3 : decide ((i : Int) > 0) = false := by simp; omega
      simp -dsimp -implicitDefEqProofs only [pick_nil, pick_cons, look_nil, look_cons, dropB_nil, dropB_cons, inD_nil, inD_cons, inE_nil, inE_cons, or_t_l, or_f_l, Nat.reduceBEq, Nat.reduceDiv, Nat.reduceAdd, beq_self_eq_true, Bool.false_eq_true, Bool.or_false, ↓reduceIte, Nat.reduceEqDiff, List.cons_append, List.nil_append]
      simp -dsimp -implicitDefEqProofs only [go_sem, ↓reduceIte, Nat.reduceEqDiff, Nat.reduceLT, Nat.reduceAdd, Nat.reduceMul, Nat.reduceLeDiff, Nat.le_refl, Int.natCast_zero, Int.toNat_natCast, Int.reduceToNat, lt_len hi, get_some hi, g3]
      repeat' first
        | (refine Br.intro (fun _ => ?_) (fun _ => ?_) <;> try simp -dsimp -implicitDefEqProofs only [go_sem, ↓reduceIte, Nat.reduceEqDiff, Nat.reduceLT, Nat.reduceAdd, Nat.reduceMul, Nat.reduceLeDiff, Nat.le_refl, Int.natCast_zero, Int.toNat_natCast, Int.reduceToNat, *])
        | (with_reducible refine And.intro ?_ ?_)
        | (refine Later.draw mixed rfl ?_; simp -dsimp -implicitDefEqProofs only [go_sem, ↓reduceIte, Nat.reduceEqDiff, Nat.reduceLT, Nat.reduceAdd, Nat.reduceMul, Nat.reduceLeDiff, Nat.le_refl, Int.natCast_zero, Int.toNat_natCast, Int.reduceToNat, lt_len hi, get_some hi, g3])
      all_goals first
        | omega
        | (refine ⟨?_, ?_⟩ <;> omega)
        | (simp; done)
        | rfl
        | (rw [no]; clear no yes; simp_all [riseAt]; done) | (rw [no]; clear no yes; simp_all [riseAt]; omega) | (refine yes ?_; clear no yes; simp_all [riseAt]; done) | (refine yes ?_; clear no yes; simp_all [riseAt]; omega)
        | (rw [← List.range_succ]; refine yes ?_; clear no yes; simp_all [riseAt]; done)
        | (rw [← List.range_succ]; refine yes ?_; clear no yes; simp_all [riseAt]; omega)
        | (have e0 : i = 0 := by omega
           clear hi0; subst e0; first | (rw [no]; clear no yes; simp_all [riseAt]; done) | (rw [no]; clear no yes; simp_all [riseAt]; omega) | (refine yes ?_; clear no yes; simp_all [riseAt]; done) | (refine yes ?_; clear no yes; simp_all [riseAt]; omega))
        | trace_state
    · have g2 : xs[((i : Int) - 1).toNat]? = some xs[i - 1] := by rw [pred_toNat hi0]; exact get_some hi'
      have g3 : decide ((i : Int) > 0) = true := by simp; omega
      simp -dsimp -implicitDefEqProofs only [pick_nil, pick_cons, look_nil, look_cons, dropB_nil, dropB_cons, inD_nil, inD_cons, inE_nil, inE_cons, or_t_l, or_f_l, Nat.reduceBEq, Nat.reduceDiv, Nat.reduceAdd, beq_self_eq_true, Bool.false_eq_true, Bool.or_false, ↓reduceIte, Nat.reduceEqDiff, List.cons_append, List.nil_append]
      simp -dsimp -implicitDefEqProofs only [go_sem, ↓reduceIte, Nat.reduceEqDiff, Nat.reduceLT, Nat.reduceAdd, Nat.reduceMul, Nat.reduceLeDiff, Nat.le_refl, Int.natCast_zero, Int.toNat_natCast, Int.reduceToNat, lt_len hi, get_some hi, g2, g3]
      repeat' first
        | (refine Br.intro (fun _ => ?_) (fun _ => ?_) <;> try simp -dsimp -implicitDefEqProofs only [go_sem, ↓reduceIte, Nat.reduceEqDiff, Nat.reduceLT, Nat.reduceAdd, Nat.reduceMul, Nat.reduceLeDiff, Nat.le_refl, Int.natCast_zero, Int.toNat_natCast, Int.reduceToNat, *])
        | (with_reducible refine And.intro ?_ ?_)
        | (refine Later.draw mixed rfl ?_; simp -dsimp -implicitDefEqProofs only [go_sem, ↓reduceIte, Nat.reduceEqDiff, Nat.reduceLT, Nat.reduceAdd, Nat.reduceMul, Nat.reduceLeDiff, Nat.le_refl, Int.natCast_zero, Int.toNat_natCast, Int.reduceToNat, lt_len hi, get_some hi, g2, g3])
      all_goals first
        | omega
        | (refine ⟨?_, ?_⟩ <;> omega)
        | (simp; done)
        | rfl
        | (rw [no]; clear no yes; simp_all [riseAt]; done) | (rw [no]; clear no yes; simp_all [riseAt]; omega) | (refine yes ?_; clear no yes; simp_all [riseAt]; done) | (refine yes ?_; clear no yes; simp_all [riseAt]; omega)
        | (rw [← List.range_succ]; refine yes ?_; clear no yes; simp_all [riseAt]; done)
        | (rw [← List.range_succ]; refine yes ?_; clear no yes; simp_all [riseAt]; omega)
        | (have e0 : i = 0 := by omega
           clear hi0; subst e0; first | (rw [no]; clear no yes; simp_all [riseAt]; done) | (rw [no]; clear no yes; simp_all [riseAt]; omega) | (refine yes ?_; clear no yes; simp_all [riseAt]; done) | (refine yes ?_; clear no yes; simp_all [riseAt]; omega))
        | trace_state
  · simp -dsimp -implicitDefEqProofs only [pick_nil, pick_cons, look_nil, look_cons, dropB_nil, dropB_cons, inD_nil, inD_cons, inE_nil, inE_cons, or_t_l, or_f_l, Nat.reduceBEq, Nat.reduceDiv, Nat.reduceAdd, beq_self_eq_true, Bool.false_eq_true, Bool.or_false, ↓reduceIte, Nat.reduceEqDiff, List.cons_append, List.nil_append]
    simp -dsimp -implicitDefEqProofs only [go_sem, ↓reduceIte, Nat.reduceEqDiff, Nat.reduceLT, Nat.reduceAdd, Nat.reduceMul, Nat.reduceLeDiff, Nat.le_refl, Int.natCast_zero, Int.toNat_natCast, Int.reduceToNat, nlt_len]
    rw [rises, hI]
def has (xs : List Int) (x : Int) : Bool := !(xs.all fun y => !(y == x))
theorem c_l01Has (xs : List Int) (x : Int) (h : xs.length ≤ 1048576) : Fn Tryz.prog 103 [eIs xs, eI x] true (· = eB (has xs x)) := by
  refine Fn.of_vcN 18 [.tmp 4] Tryz.func103 rfl rfl rfl rfl rfl (of_decide_eq_true rfl) ?_
  simp -dsimp -implicitDefEqProofs only [go_sem, ↓reduceIte, Nat.reduceEqDiff, Nat.reduceLT, Nat.reduceAdd, Nat.reduceMul, Nat.reduceLeDiff, Nat.le_refl, Int.natCast_zero, Int.toNat_natCast, Int.reduceToNat]
  refine Later.up [0, 1] [8] [] xs.length (fun i => (xs.take i).all (fun y => !(y == x))) (fun i => [(5, eI i)]) (fun _ => []) (by simp) ?_ rfl (fun i hi hI => ?_) (fun hI => ?_)
  · simp -dsimp -implicitDefEqProofs only [go_sem, ↓reduceIte, Nat.reduceEqDiff, Nat.reduceLT, Nat.reduceAdd, Nat.reduceMul, Nat.reduceLeDiff, Nat.le_refl, Int.natCast_zero, Int.toNat_natCast, Int.reduceToNat]
  · simp -dsimp -implicitDefEqProofs only [pick_nil, pick_cons, look_nil, look_cons, dropB_nil, dropB_cons, inD_nil, inD_cons, inE_nil, inE_cons, or_t_l, or_f_l, Nat.reduceBEq, Nat.reduceDiv, Nat.reduceAdd, beq_self_eq_true, Bool.false_eq_true, Bool.or_false, ↓reduceIte, Nat.reduceEqDiff, List.cons_append, List.nil_append]
    have gi := get_some hi
    have li := lt_len hi
    have no : (!(xs[i] == x)) = false → (xs.all fun y => !(y == x)) = false := fun h => by simp [has, all_no (p := fun y => !(y == x)) hi h]
    have yes : (!(xs[i] == x)) = true → ((xs.take (i + 1)).all (fun y => !(y == x))) = true := fun h => by rw [all_take _ _ _ hi, hI]; simpa using h
    simp -dsimp -implicitDefEqProofs only [go_sem, ↓reduceIte, Nat.reduceEqDiff, Nat.reduceLT, Nat.reduceAdd, Nat.reduceMul, Nat.reduceLeDiff, Nat.le_refl, Int.natCast_zero, Int.toNat_natCast, Int.reduceToNat, li, gi]
    repeat' first
      | (refine Br.intro (fun _ => ?_) (fun _ => ?_) <;> try simp -dsimp -implicitDefEqProofs only [go_sem, ↓reduceIte, Nat.reduceEqDiff, Nat.reduceLT, Nat.reduceAdd, Nat.reduceMul, Nat.reduceLeDiff, Nat.le_refl, Int.natCast_zero, Int.toNat_natCast, Int.reduceToNat, *])
      | (with_reducible refine And.intro ?_ ?_)
      | (refine Later.draw mixed rfl ?_; try simp -dsimp -implicitDefEqProofs only [go_sem, ↓reduceIte, Nat.reduceEqDiff, Nat.reduceLT, Nat.reduceAdd, Nat.reduceMul, Nat.reduceLeDiff, Nat.le_refl, Int.natCast_zero, Int.toNat_natCast, Int.reduceToNat, *])
    all_goals first
      | omega
      | (refine ⟨?_, ?_⟩ <;> omega)
      | (simp; done)
      | rfl
      | (rw [has, no (by rw [‹(xs[i] == x) = true›]; rfl)]; rfl) | (refine yes ?_; clear no yes; simp_all; done)
      | trace_state
  · simp -dsimp -implicitDefEqProofs only [pick_nil, pick_cons, look_nil, look_cons, dropB_nil, dropB_cons, inD_nil, inD_cons, inE_nil, inE_cons, or_t_l, or_f_l, Nat.reduceBEq, Nat.reduceDiv, Nat.reduceAdd, beq_self_eq_true, Bool.false_eq_true, Bool.or_false, ↓reduceIte, Nat.reduceEqDiff, List.cons_append, List.nil_append]
    simp -dsimp -implicitDefEqProofs only [go_sem, ↓reduceIte, Nat.reduceEqDiff, Nat.reduceLT, Nat.reduceAdd, Nat.reduceMul, Nat.reduceLeDiff, Nat.le_refl, Int.natCast_zero, Int.toNat_natCast, Int.reduceToNat, nlt_len]
    rw [List.take_length] at hI
    first
      | (simp_all [has]; done)
      | trace_state
theorem c_Index (xs : List Int) (x : Int) (h : xs.length ≤ 1048576) : Fn Tryz.prog 173 [eIs xs, eI x] true (fun r => ∃ n : Int, r = eI n ∧ decide (n ≥ 0) = has xs x) := by
  refine Fn.of_vc 19 [.tmp 4] Tryz.func173 rfl rfl rfl rfl rfl (of_decide_eq_true rfl) ?_
  simp -dsimp -implicitDefEqProofs only [go_sem, ↓reduceIte, Nat.reduceEqDiff, Nat.reduceLT, Nat.reduceAdd, Nat.reduceMul, Nat.reduceLeDiff, Nat.le_refl, Int.natCast_zero, Int.toNat_natCast, Int.reduceToNat]
  refine Later.up [0, 1, 7] [] [] xs.length (fun i => (xs.take i).all (fun y => !(y == x))) (fun i => [(8, eI i)]) (fun _ => []) (by simp) ?_ rfl (fun i hi hI => ?_) (fun hI => ?_)
  · simp -dsimp -implicitDefEqProofs only [go_sem, ↓reduceIte, Nat.reduceEqDiff, Nat.reduceLT, Nat.reduceAdd, Nat.reduceMul, Nat.reduceLeDiff, Nat.le_refl, Int.natCast_zero, Int.toNat_natCast, Int.reduceToNat]
  · simp -dsimp -implicitDefEqProofs only [pick_nil, pick_cons, look_nil, look_cons, dropB_nil, dropB_cons, inD_nil, inD_cons, inE_nil, inE_cons, or_t_l, or_f_l, Nat.reduceBEq, Nat.reduceDiv, Nat.reduceAdd, beq_self_eq_true, Bool.false_eq_true, Bool.or_false, ↓reduceIte, Nat.reduceEqDiff, List.cons_append, List.nil_append]
    have no : (!(xs[i] == x)) = false → has xs x = true := fun h => by simp [has, all_no (p := fun y => !(y == x)) hi h]
    have yes : (!(xs[i] == x)) = true → ((xs.take (i + 1)).all (fun y => !(y == x))) = true := fun h => by rw [all_take _ _ _ hi, hI]; simpa using h
    have gi := get_some hi
    simp -dsimp -implicitDefEqProofs only [go_sem, ↓reduceIte, Nat.reduceEqDiff, Nat.reduceLT, Nat.reduceAdd, Nat.reduceMul, Nat.reduceLeDiff, Nat.le_refl, Int.natCast_zero, Int.toNat_natCast, Int.reduceToNat, lt_len hi, get_some hi]
    repeat' first
      | (refine Br.intro (fun _ => ?_) (fun _ => ?_) <;> try simp -dsimp -implicitDefEqProofs only [go_sem, ↓reduceIte, Nat.reduceEqDiff, Nat.reduceLT, Nat.reduceAdd, Nat.reduceMul, Nat.reduceLeDiff, Nat.le_refl, Int.natCast_zero, Int.toNat_natCast, Int.reduceToNat, *])
      | (with_reducible refine And.intro ?_ ?_)
      | (refine Later.draw mixed rfl ?_; try simp -dsimp -implicitDefEqProofs only [go_sem, ↓reduceIte, Nat.reduceEqDiff, Nat.reduceLT, Nat.reduceAdd, Nat.reduceMul, Nat.reduceLeDiff, Nat.le_refl, Int.natCast_zero, Int.toNat_natCast, Int.reduceToNat, *])
    all_goals first
      | omega
      | (refine ⟨?_, ?_⟩ <;> omega)
      | rfl
      | (refine ⟨_, rfl, ?_⟩; rw [no]; · simp
         · clear no yes; simp_all)
      | (refine yes ?_; rw [BEq.comm, ‹(x == xs[i]) = false›]; rfl)
      | trace_state
  · simp -dsimp -implicitDefEqProofs only [pick_nil, pick_cons, look_nil, look_cons, dropB_nil, dropB_cons, inD_nil, inD_cons, inE_nil, inE_cons, or_t_l, or_f_l, Nat.reduceBEq, Nat.reduceDiv, Nat.reduceAdd, beq_self_eq_true, Bool.false_eq_true, Bool.or_false, ↓reduceIte, Nat.reduceEqDiff, List.cons_append, List.nil_append]
    simp -dsimp -implicitDefEqProofs only [go_sem, ↓reduceIte, Nat.reduceEqDiff, Nat.reduceLT, Nat.reduceAdd, Nat.reduceMul, Nat.reduceLeDiff, Nat.le_refl, Int.natCast_zero, Int.toNat_natCast, Int.reduceToNat, nlt_len]
    rw [List.take_length] at hI
    exact ⟨_, rfl, by rw [has, hI]; rfl⟩
theorem c_Contains (xs : List Int) (x : Int) (h : xs.length ≤ 1048576) : Fn Tryz.prog 162 [eIs xs, eI x] true (· = eB (has xs x)) := by
  refine Fn.of_vcN 9 [.tmp 4] Tryz.func162 rfl rfl rfl rfl rfl (of_decide_eq_true rfl) ?_
  simp -dsimp -implicitDefEqProofs only [go_sem, ↓reduceIte, Nat.reduceEqDiff, Nat.reduceLT, Nat.reduceAdd, Nat.reduceMul, Nat.reduceLeDiff, Nat.le_refl, Int.natCast_zero, Int.toNat_natCast, Int.reduceToNat]
  refine sCallT_any (c_Index xs x h) ?_
  rintro _ ⟨n, rfl, hn⟩
  simp -dsimp -implicitDefEqProofs only [go_sem, ↓reduceIte, Nat.reduceEqDiff, Nat.reduceLT, Nat.reduceAdd, Nat.reduceMul, Nat.reduceLeDiff, Nat.le_refl, Int.natCast_zero, Int.toNat_natCast, Int.reduceToNat]
  rw [← hn]
end Go.Vc


/-
  Contracts of the functions on access tables and systems.
-/
set_option linter.unusedVariables false
set_option linter.unusedSimpArgs false
set_option linter.unnecessarySimpa false
namespace Go.Vc
open Go.Proofs
set_option maxRecDepth 100000
abbrev eSy (m : MkM) (t : List (List Int)) : AV := .agg [eI m.chambers, eI m.depths, eI m.step, eI m.same, eI m.least, eIss t]
def rowOk (n : Nat) (r : List Int) : Bool := (r.length == n) && decide (1 ≤ r.length) && decide (r.length ≤ 12) && r.all fun x => isIn x 0 1
def isTb (t : List (List Int)) : Bool := decide (1 ≤ t.length) && decide (t.length ≤ 10) && t.all (rowOk (t.getD 0 []).length)
theorem isTb_no {t : List (List Int)} {i : Nat} (hi : i < t.length) (h : rowOk (t.getD 0 []).length t[i] = false) : isTb t = false := by
  rw [isTb, all_no hi h]; simp
theorem isTb_num {t : List (List Int)} (h : isTb t = true) : 1 ≤ t.length ∧ t.length ≤ 10 ∧ 1 ≤ (t.getD 0 []).length ∧ (t.getD 0 []).length ≤ 12 ∧ ∀ i (hi : i < t.length), t[i].length = (t.getD 0 []).length := by
  simp only [isTb, Bool.and_eq_true, decide_eq_true_eq] at h
  have hr : ∀ i (hi : i < t.length), rowOk (t.getD 0 []).length t[i] = true := fun i hi => List.all_eq_true.1 h.2 _ (List.getElem_mem hi)
  have h0 := hr 0 (by omega)
  have e : t.getD 0 [] = t[0]'(by omega) := by simp [List.getD_eq_getElem?_getD, show 0 < t.length by omega]
  simp only [rowOk, Bool.and_eq_true, decide_eq_true_eq, beq_iff_eq] at h0 hr
  rw [← e] at h0
  exact ⟨h.1.1, h.1.2, h0.1.1.2, h0.1.2, fun i hi => (hr i hi).1.1.1⟩
theorem c_iIsTable (t : List (List Int)) (h : t.length ≤ 1048576) (h2 : ∀ x ∈ t, x.length ≤ 1048576) : Fn Tryz.prog 111 [eIss t] true (· = eB (isTb t)) := by
  refine Fn.of_vcN 42 [.tmp 2] Tryz.func111 rfl rfl rfl rfl rfl (of_decide_eq_true rfl) ?_
  simp -dsimp -implicitDefEqProofs only [go_sem, ↓reduceIte, Nat.reduceEqDiff, Nat.reduceLT, Nat.reduceAdd, Nat.reduceMul, Nat.reduceLeDiff, Nat.le_refl, Int.natCast_zero, Int.toNat_natCast, Int.reduceToNat]
  refine Later.up [0, 5, 6] [12, 16, 20, 25, 30] [] t.length (fun i => (t.take i).all (rowOk (t.getD 0 []).length)) (fun i => [(7, eI i)]) (fun _ => []) (by simp) ?_ rfl (fun i hi hI => ?_) (fun hI => ?_)
  · simp -dsimp -implicitDefEqProofs only [go_sem, ↓reduceIte, Nat.reduceEqDiff, Nat.reduceLT, Nat.reduceAdd, Nat.reduceMul, Nat.reduceLeDiff, Nat.le_refl, Int.natCast_zero, Int.toNat_natCast, Int.reduceToNat]
  · have h00 : 0 < t.length := by omega
    have g0 := get_some h00
    have gd : t.getD 0 [] = t[0] := by simp [List.getD_eq_getElem?_getD, h00]
    have hx := h2 t[i] (List.getElem_mem hi)
    have hx0 := h2 t[0] (List.getElem_mem h00)
    have gi := get_some hi
    have li := lt_len hi
    have no : rowOk t[0].length t[i] = false → isTb t = false := fun h => isTb_no hi (by rw [gd]; exact h)
    have yes : rowOk t[0].length t[i] = true → (t.take (i + 1)).all (rowOk (t.getD 0 []).length) = true := fun h => by rw [all_take _ _ _ hi, hI, gd, h]; rfl
    clear gd
    simp -dsimp -implicitDefEqProofs only [pick_nil, pick_cons, look_nil, look_cons, dropB_nil, dropB_cons, inD_nil, inD_cons, inE_nil, inE_cons, or_t_l, or_f_l, Nat.reduceBEq, Nat.reduceDiv, Nat.reduceAdd, beq_self_eq_true, Bool.false_eq_true, Bool.or_false, ↓reduceIte, Nat.reduceEqDiff, List.cons_append, List.nil_append]
    simp -dsimp -implicitDefEqProofs only [go_sem, ↓reduceIte, Nat.reduceEqDiff, Nat.reduceLT, Nat.reduceAdd, Nat.reduceMul, Nat.reduceLeDiff, Nat.le_refl, Int.natCast_zero, Int.toNat_natCast, Int.reduceToNat, li, gi, g0]
    repeat' first
      | (refine Br.intro (fun _ => ?_) (fun _ => ?_) <;> try simp -dsimp -implicitDefEqProofs only [go_sem, ↓reduceIte, Nat.reduceEqDiff, Nat.reduceLT, Nat.reduceAdd, Nat.reduceMul, Nat.reduceLeDiff, Nat.le_refl, Int.natCast_zero, Int.toNat_natCast, Int.reduceToNat, *])
      | (with_reducible refine And.intro ?_ ?_)
      | (refine sCallT_one (c_allWithin t[i] 0 1 (by omega)) ?_; try simp -dsimp -implicitDefEqProofs only [go_sem, ↓reduceIte, Nat.reduceEqDiff, Nat.reduceLT, Nat.reduceAdd, Nat.reduceMul, Nat.reduceLeDiff, Nat.le_refl, Int.natCast_zero, Int.toNat_natCast, Int.reduceToNat, *])
    all_goals first
      | omega
      | (refine ⟨?_, ?_⟩ <;> omega)
      | rfl
      | (simp; done)
      | (rw [no]; clear no yes; simp_all [rowOk]; done) | (rw [no]; clear no yes; simp_all [rowOk]; omega) | (refine yes ?_; clear no yes; simp_all [rowOk]; done) | (refine yes ?_; clear no yes; simp_all [rowOk]; omega)
      | trace_state
  · simp -dsimp -implicitDefEqProofs only [pick_nil, pick_cons, look_nil, look_cons, dropB_nil, dropB_cons, inD_nil, inD_cons, inE_nil, inE_cons, or_t_l, or_f_l, Nat.reduceBEq, Nat.reduceDiv, Nat.reduceAdd, beq_self_eq_true, Bool.false_eq_true, Bool.or_false, ↓reduceIte, Nat.reduceEqDiff, List.cons_append, List.nil_append]
    simp -dsimp -implicitDefEqProofs only [go_sem, ↓reduceIte, Nat.reduceEqDiff, Nat.reduceLT, Nat.reduceAdd, Nat.reduceMul, Nat.reduceLeDiff, Nat.le_refl, Int.natCast_zero, Int.toNat_natCast, Int.reduceToNat, nlt_len]
    rw [List.take_length] at hI
    repeat' first
      | (refine Br.intro (fun _ => ?_) (fun _ => ?_) <;> try simp -dsimp -implicitDefEqProofs only [go_sem, ↓reduceIte, Nat.reduceEqDiff, Nat.reduceLT, Nat.reduceAdd, Nat.reduceMul, Nat.reduceLeDiff, Nat.le_refl, Int.natCast_zero, Int.toNat_natCast, Int.reduceToNat, *])
      | (with_reducible refine And.intro ?_ ?_)
    all_goals first
      | omega
      | (simp_all [isTb]; done)
      | (rename_i hx
         have h3 : 1 ≤ t.length := by have := of_decide_eq_true hx; omega
         have h4 : decide ((t.length : Int) ≤ 10) = decide (t.length ≤ 10) := by rw [decide_eq_decide]; omega
         rw [isTb, hI, decide_eq_true h3, h4, Bool.true_and, Bool.and_true])
      | (rename_i hx
         have h3 : ¬ 1 ≤ t.length := by have := of_decide_eq_false hx; omega
         rw [isTb, decide_eq_false h3]; rfl)
      | trace_state
theorem c_sIsTable (t : List (List Int)) (h : t.length ≤ 1048576) (h2 : ∀ x ∈ t, x.length ≤ 1048576) : Fn Tryz.prog 114 [eIss t] true (· = eB (isTb t)) := by
  refine Fn.of_vcN 52 [.tmp 2] Tryz.func114 rfl rfl rfl rfl rfl (of_decide_eq_true rfl) ?_
  simp -dsimp -implicitDefEqProofs only [go_sem, ↓reduceIte, Nat.reduceEqDiff, Nat.reduceLT, Nat.reduceAdd, Nat.reduceMul, Nat.reduceLeDiff, Nat.le_refl, Int.natCast_zero, Int.toNat_natCast, Int.reduceToNat]
  repeat' first
    | (refine Br.intro (fun _ => ?_) (fun _ => ?_) <;> try simp -dsimp -implicitDefEqProofs only [go_sem, ↓reduceIte, Nat.reduceEqDiff, Nat.reduceLT, Nat.reduceAdd, Nat.reduceMul, Nat.reduceLeDiff, Nat.le_refl, Int.natCast_zero, Int.toNat_natCast, Int.reduceToNat, *])
    | (with_reducible refine And.intro ?_ ?_)
    | (refine sCallT_one (c_l01In _ _ _) ?_; try simp -dsimp -implicitDefEqProofs only [go_sem, ↓reduceIte, Nat.reduceEqDiff, Nat.reduceLT, Nat.reduceAdd, Nat.reduceMul, Nat.reduceLeDiff, Nat.le_refl, Int.natCast_zero, Int.toNat_natCast, Int.reduceToNat, *])
  all_goals try (first | omega | (simp_all [isTb, isIn]; omega))
  rename_i hl
  refine Later.up [0] [11, 19, 23, 30, 31, 39, 50] [] t.length (fun i => (t.take i).all (rowOk (t.getD 0 []).length)) (fun i => [(3, eI i)]) (fun _ => []) (by simp) ?_ rfl (fun i hi hI => ?_) (fun hI => ?_)
  · simp -dsimp -implicitDefEqProofs only [go_sem, ↓reduceIte, Nat.reduceEqDiff, Nat.reduceLT, Nat.reduceAdd, Nat.reduceMul, Nat.reduceLeDiff, Nat.le_refl, Int.natCast_zero, Int.toNat_natCast, Int.reduceToNat]
  · have h00 : 0 < t.length := by omega
    have g0 := get_some h00
    have gd : t.getD 0 [] = t[0] := by simp [List.getD_eq_getElem?_getD, h00]
    have hx := h2 t[i] (List.getElem_mem hi)
    have hx0 := h2 t[0] (List.getElem_mem h00)
    have gi := get_some hi
    have li := lt_len hi
    have no : rowOk t[0].length t[i] = false → isTb t = false := fun h => isTb_no hi (by rw [gd]; exact h)
    have yes : rowOk t[0].length t[i] = true → (t.take (i + 1)).all (rowOk (t.getD 0 []).length) = true := fun h => by rw [all_take _ _ _ hi, hI, gd, h]; rfl
    clear gd hI
    simp -dsimp -implicitDefEqProofs only [pick_nil, pick_cons, look_nil, look_cons, dropB_nil, dropB_cons, inD_nil, inD_cons, inE_nil, inE_cons, or_t_l, or_f_l, Nat.reduceBEq, Nat.reduceDiv, Nat.reduceAdd, beq_self_eq_true, Bool.false_eq_true, Bool.or_false, ↓reduceIte, Nat.reduceEqDiff, List.cons_append, List.nil_append]
    simp -dsimp -implicitDefEqProofs only [go_sem, ↓reduceIte, Nat.reduceEqDiff, Nat.reduceLT, Nat.reduceAdd, Nat.reduceMul, Nat.reduceLeDiff, Nat.le_refl, Int.natCast_zero, Int.toNat_natCast, Int.reduceToNat, li, gi, g0]
    repeat' first
      | (refine Br.intro (fun _ => ?_) (fun _ => ?_) <;> try simp -dsimp -implicitDefEqProofs only [go_sem, ↓reduceIte, Nat.reduceEqDiff, Nat.reduceLT, Nat.reduceAdd, Nat.reduceMul, Nat.reduceLeDiff, Nat.le_refl, Int.natCast_zero, Int.toNat_natCast, Int.reduceToNat, *])
      | (with_reducible refine And.intro ?_ ?_)
      | (refine Later.draw mixed rfl ?_; try simp -dsimp -implicitDefEqProofs only [go_sem, ↓reduceIte, Nat.reduceEqDiff, Nat.reduceLT, Nat.reduceAdd, Nat.reduceMul, Nat.reduceLeDiff, Nat.le_refl, Int.natCast_zero, Int.toNat_natCast, Int.reduceToNat, *])
      | (refine sCallT_one (c_l01In _ _ _) ?_; try simp -dsimp -implicitDefEqProofs only [go_sem, ↓reduceIte, Nat.reduceEqDiff, Nat.reduceLT, Nat.reduceAdd, Nat.reduceMul, Nat.reduceLeDiff, Nat.le_refl, Int.natCast_zero, Int.toNat_natCast, Int.reduceToNat, *])
      | (refine sCallX_one (c_l01In _ _ _) ?_; try simp -dsimp -implicitDefEqProofs only [go_sem, ↓reduceIte, Nat.reduceEqDiff, Nat.reduceLT, Nat.reduceAdd, Nat.reduceMul, Nat.reduceLeDiff, Nat.le_refl, Int.natCast_zero, Int.toNat_natCast, Int.reduceToNat, *])
    all_goals try (first | omega | (refine ⟨?_, ?_⟩ <;> omega) | rfl | (simp; done) | (rw [no]; clear no yes; simp_all [rowOk, isIn]; done) | (rw [no]; clear no yes; simp_all [rowOk, isIn]; omega) | (refine yes ?_; clear no yes; simp_all [rowOk, isIn]; done) | (refine yes ?_; clear no yes; simp_all [rowOk, isIn]; omega))
    refine Later.up [0, 3] [39, 50] [] t[i].length (fun j => (t[i].take j).all (fun x => isIn x 0 1)) (fun j => [(4, eI j)]) (fun _ => []) (by simp) ?_ rfl (fun j hj hJ => ?_) (fun hJ => ?_)
    · simp -dsimp -implicitDefEqProofs only [go_sem, ↓reduceIte, Nat.reduceEqDiff, Nat.reduceLT, Nat.reduceAdd, Nat.reduceMul, Nat.reduceLeDiff, Nat.le_refl, Int.natCast_zero, Int.toNat_natCast, Int.reduceToNat]
    · have gj := get_some hj
      have lj := lt_len hj
      have no1 : isIn t[i][j] 0 1 = false → isTb t = false := fun h => no (by rw [rowOk, all_no (p := fun x => isIn x 0 1) hj h]; simp)
      have yes1 : isIn t[i][j] 0 1 = true → (t[i].take (j + 1)).all (fun x => isIn x 0 1) = true := fun h => by rw [all_take _ _ _ hj, hJ, h]; rfl
      clear no yes
      simp -dsimp -implicitDefEqProofs only [pick_nil, pick_cons, look_nil, look_cons, dropB_nil, dropB_cons, inD_nil, inD_cons, inE_nil, inE_cons, or_t_l, or_f_l, Nat.reduceBEq, Nat.reduceDiv, Nat.reduceAdd, beq_self_eq_true, Bool.false_eq_true, Bool.or_false, ↓reduceIte, Nat.reduceEqDiff, List.cons_append, List.nil_append]
      simp -dsimp -implicitDefEqProofs only [go_sem, ↓reduceIte, Nat.reduceEqDiff, Nat.reduceLT, Nat.reduceAdd, Nat.reduceMul, Nat.reduceLeDiff, Nat.le_refl, Int.natCast_zero, Int.toNat_natCast, Int.reduceToNat, li, gi, gj, lj]
      repeat' first
        | (refine Br.intro (fun _ => ?_) (fun _ => ?_) <;> try simp -dsimp -implicitDefEqProofs only [go_sem, ↓reduceIte, Nat.reduceEqDiff, Nat.reduceLT, Nat.reduceAdd, Nat.reduceMul, Nat.reduceLeDiff, Nat.le_refl, Int.natCast_zero, Int.toNat_natCast, Int.reduceToNat, *])
        | (with_reducible refine And.intro ?_ ?_)
        | (refine sCallT_one (c_l01In _ _ _) ?_; try simp -dsimp -implicitDefEqProofs only [go_sem, ↓reduceIte, Nat.reduceEqDiff, Nat.reduceLT, Nat.reduceAdd, Nat.reduceMul, Nat.reduceLeDiff, Nat.le_refl, Int.natCast_zero, Int.toNat_natCast, Int.reduceToNat, *])
      all_goals first
        | omega
        | (refine ⟨?_, ?_⟩ <;> omega)
        | rfl
        | (simp; done)
        | (rw [no1]; clear no1 yes1; simp_all; done)
        | (refine yes1 ?_; clear no1 yes1; simp_all; done)
        | trace_state
    · simp -dsimp -implicitDefEqProofs only [pick_nil, pick_cons, look_nil, look_cons, dropB_nil, dropB_cons, inD_nil, inD_cons, inE_nil, inE_cons, or_t_l, or_f_l, Nat.reduceBEq, Nat.reduceDiv, Nat.reduceAdd, beq_self_eq_true, Bool.false_eq_true, Bool.or_false, ↓reduceIte, Nat.reduceEqDiff, List.cons_append, List.nil_append]
      rw [List.take_length] at hJ
      simp -dsimp -implicitDefEqProofs only [go_sem, ↓reduceIte, Nat.reduceEqDiff, Nat.reduceLT, Nat.reduceAdd, Nat.reduceMul, Nat.reduceLeDiff, Nat.le_refl, Int.natCast_zero, Int.toNat_natCast, Int.reduceToNat, li, gi, nlt_len]
      repeat' first
        | (refine Br.intro (fun _ => ?_) (fun _ => ?_) <;> try simp -dsimp -implicitDefEqProofs only [go_sem, ↓reduceIte, Nat.reduceEqDiff, Nat.reduceLT, Nat.reduceAdd, Nat.reduceMul, Nat.reduceLeDiff, Nat.le_refl, Int.natCast_zero, Int.toNat_natCast, Int.reduceToNat, *])
        | (with_reducible refine And.intro ?_ ?_)
      all_goals first
        | omega
        | (refine ⟨?_, ?_⟩ <;> omega)
        | rfl
        | (simp; done)
        | (refine yes ?_; clear no yes; simp_all [rowOk, isIn]; done)
        | (refine yes ?_; clear no yes; simp_all [rowOk, isIn]; omega)
        | trace_state
  · simp -dsimp -implicitDefEqProofs only [pick_nil, pick_cons, look_nil, look_cons, dropB_nil, dropB_cons, inD_nil, inD_cons, inE_nil, inE_cons, or_t_l, or_f_l, Nat.reduceBEq, Nat.reduceDiv, Nat.reduceAdd, beq_self_eq_true, Bool.false_eq_true, Bool.or_false, ↓reduceIte, Nat.reduceEqDiff, List.cons_append, List.nil_append]
    simp -dsimp -implicitDefEqProofs only [go_sem, ↓reduceIte, Nat.reduceEqDiff, Nat.reduceLT, Nat.reduceAdd, Nat.reduceMul, Nat.reduceLeDiff, Nat.le_refl, Int.natCast_zero, Int.toNat_natCast, Int.reduceToNat, nlt_len]
    rw [List.take_length] at hI
    first
      | (simp_all [isTb, isIn]; done)
      | (simp_all [isTb, isIn]; omega)
      | trace_state
def doorOpen (t : List (List Int)) (k : Nat) : Bool := t.any fun r => r.getD k 0 == 1
def doorsOpen (t : List (List Int)) : Bool := (List.range (t.getD 0 []).length).all (doorOpen t)
def isSy (m : MkM) (t : List (List Int)) : Bool := isMk m && isTb t && doorsOpen t
theorem isSy_num {m : MkM} {t : List (List Int)} (h : isSy m t = true) : 1 ≤ t.length ∧ t.length ≤ 10 ∧ 1 ≤ (t.getD 0 []).length ∧ (t.getD 0 []).length ≤ 12 ∧ ∀ i (hi : i < t.length), t[i].length = (t.getD 0 []).length := by
  simp only [isSy, Bool.and_eq_true] at h
  exact isTb_num h.1.2
theorem any_take {α : Type} (p : α → Bool) (xs : List α) (i : Nat) (h : i < xs.length) : (xs.take (i + 1)).any p = ((xs.take i).any p || p xs[i]) := by
  rw [List.take_succ_eq_append_getElem h, List.any_append]; simp
def rowsOn (t : List (List Int)) (k : Nat) : List Int := flt (fun i => (t.getD i []).getD k 0 == 1) t.length
theorem rowsOn_nil (t : List (List Int)) (k : Nat) : decide (((rowsOn t k).length : Int) = 0) = !doorOpen t k := by
  have key : ∀ n, n ≤ t.length → ((flt (fun i => (t.getD i []).getD k 0 == 1) n) = [] ↔ (t.take n).any (fun r => r.getD k 0 == 1) = false) := by
    intro n
    induction n with
    | zero => intro _; simp [flt_zero]
    | succ n ih =>
      intro hn
      have h1 := ih (by omega)
      have e : t.getD n [] = t[n] := by simp [List.getD_eq_getElem?_getD, show n < t.length by omega]
      rw [flt_succ, any_take _ _ _ (show n < t.length by omega), Bool.or_eq_false_iff, ← h1, e]
      cases hc : (t[n].getD k 0 == 1) <;> simp
  have h1 := key t.length (Nat.le_refl _)
  rw [List.take_length] at h1
  have h2 : (((rowsOn t k).length : Int) = 0) ↔ rowsOn t k = [] := by rw [← List.length_eq_zero_iff]; omega
  cases hd : doorOpen t k with
  | true =>
    rw [Bool.not_true]
    refine decide_eq_false fun e => ?_
    have := h1.1 (h2.1 e)
    rw [show doorOpen t k = t.any fun r => r.getD k 0 == 1 from rfl, this] at hd; cases hd
  | false =>
    rw [Bool.not_false]
    exact decide_eq_true (h2.2 (h1.2 hd))
theorem c_rowsFor (m : MkM) (t : List (List Int)) (k : Nat) (h : t.length ≤ 1048576) (hk : ∀ i (hi : i < t.length), k < t[i].length) : Fn Tryz.prog 76 [eSy m t, eI k] true (· = eIs (rowsOn t k)) := by
  refine Fn.of_vcN 28 [.tmp 4] Tryz.func76 rfl rfl rfl rfl rfl (of_decide_eq_true rfl) ?_
  simp -dsimp -implicitDefEqProofs only [go_sem, ↓reduceIte, Nat.reduceEqDiff, Nat.reduceLT, Nat.reduceAdd, Nat.reduceMul, Nat.reduceLeDiff, Nat.le_refl, Int.natCast_zero, Int.toNat_natCast, Int.reduceToNat]
  repeat' (with_reducible refine And.intro ?_ ?_)
  all_goals try omega
  refine Later.up [1, 10, 11] [24, 25] [8] t.length (fun _ => True) (fun i => [(12, eI i), (5, .ref 8 0 0 (flt (fun i => (t.getD i []).getD k 0 == 1) i).length)]) (fun i => [(8, .row 0 ⟨1, false⟩ true ((flt (fun i => (t.getD i []).getD k 0 == 1) i).map eI))]) trivial ?_ rfl (fun i hi _ => ?_) (fun _ => ?_)
  · simp -dsimp -implicitDefEqProofs only [go_sem, ↓reduceIte, Nat.reduceEqDiff, Nat.reduceLT, Nat.reduceAdd, Nat.reduceMul, Nat.reduceLeDiff, Nat.le_refl, Int.natCast_zero, Int.toNat_natCast, Int.reduceToNat, flt_zero]
    all_goals simp
  · have hl := flt_len (fun i => (t.getD i []).getD k 0 == 1) i
    have hs := flt_succ (fun i => (t.getD i []).getD k 0 == 1) i
    have hki := hk i hi
    have hp : (t.getD i []).getD k 0 = t[i][k] := by simp [List.getD_eq_getElem?_getD, hi, hki]
    rw [hp] at hs
    clear hp
    have gi := get_some hi
    have gk := get_some hki
    have li := lt_len hi
    simp -dsimp -implicitDefEqProofs only [pick_nil, pick_cons, look_nil, look_cons, dropB_nil, dropB_cons, inD_nil, inD_cons, inE_nil, inE_cons, or_t_l, or_f_l, Nat.reduceBEq, Nat.reduceDiv, Nat.reduceAdd, beq_self_eq_true, Bool.false_eq_true, Bool.or_false, ↓reduceIte, Nat.reduceEqDiff, List.cons_append, List.nil_append]
    rw [hs]
    clear hs
    simp -dsimp -implicitDefEqProofs only [go_sem, ↓reduceIte, Nat.reduceEqDiff, Nat.reduceLT, Nat.reduceAdd, Nat.reduceMul, Nat.reduceLeDiff, Nat.le_refl, Int.natCast_zero, Int.toNat_natCast, Int.reduceToNat, li, gi, gk]
    repeat' first
      | (refine Br.intro (fun _ => ?_) (fun _ => ?_) <;> try simp -dsimp -implicitDefEqProofs only [go_sem, ↓reduceIte, Nat.reduceEqDiff, Nat.reduceLT, Nat.reduceAdd, Nat.reduceMul, Nat.reduceLeDiff, Nat.le_refl, Int.natCast_zero, Int.toNat_natCast, Int.reduceToNat, *])
      | (with_reducible refine And.intro ?_ ?_)
      | (refine Later.draw mixed rfl ?_; try simp -dsimp -implicitDefEqProofs only [go_sem, ↓reduceIte, Nat.reduceEqDiff, Nat.reduceLT, Nat.reduceAdd, Nat.reduceMul, Nat.reduceLeDiff, Nat.le_refl, Int.natCast_zero, Int.toNat_natCast, Int.reduceToNat, *])
    all_goals first
      | omega | (refine ⟨?_, ?_⟩ <;> omega) | (simp; done) | (simp; omega)
      | rfl
      | (simp_all; done)
      | (simp_all; omega)
      | trace_state
  · have hl := flt_len (fun i => (t.getD i []).getD k 0 == 1) t.length
    simp -dsimp -implicitDefEqProofs only [pick_nil, pick_cons, look_nil, look_cons, dropB_nil, dropB_cons, inD_nil, inD_cons, inE_nil, inE_cons, or_t_l, or_f_l, Nat.reduceBEq, Nat.reduceDiv, Nat.reduceAdd, beq_self_eq_true, Bool.false_eq_true, Bool.or_false, ↓reduceIte, Nat.reduceEqDiff, List.cons_append, List.nil_append]
    simp -dsimp -implicitDefEqProofs only [go_sem, ↓reduceIte, Nat.reduceEqDiff, Nat.reduceLT, Nat.reduceAdd, Nat.reduceMul, Nat.reduceLeDiff, Nat.le_refl, Int.natCast_zero, Int.toNat_natCast, Int.reduceToNat, nlt_len]
    repeat' (with_reducible refine And.intro ?_ ?_)
    all_goals first
      | omega | (refine ⟨?_, ?_⟩ <;> omega) | (simp; done) | (simp; omega)
      | rfl
      | (simp [rowsOn]; done)
      | trace_state
theorem c_iIsSystem (m : MkM) (t : List (List Int)) (h : t.length ≤ 1048576) (h2 : ∀ x ∈ t, x.length ≤ 1048576) : Fn Tryz.prog 90 [eSy m t] true (· = eB (isSy m t)) := by
  refine Fn.of_vcN 28 [.tmp 2] Tryz.func90 rfl rfl rfl rfl rfl (of_decide_eq_true rfl) ?_
  rcases hb : (isMk m && isTb t) with _ | _
  · simp -dsimp -implicitDefEqProofs only [go_sem, ↓reduceIte, Nat.reduceEqDiff, Nat.reduceLT, Nat.reduceAdd, Nat.reduceMul, Nat.reduceLeDiff, Nat.le_refl, Int.natCast_zero, Int.toNat_natCast, Int.reduceToNat]
    repeat' first
      | (refine Br.intro (fun _ => ?_) (fun _ => ?_) <;> try simp -dsimp -implicitDefEqProofs only [go_sem, ↓reduceIte, Nat.reduceEqDiff, Nat.reduceLT, Nat.reduceAdd, Nat.reduceMul, Nat.reduceLeDiff, Nat.le_refl, Int.natCast_zero, Int.toNat_natCast, Int.reduceToNat, *])
      | (with_reducible refine And.intro ?_ ?_)
      | (refine sCallT_one (c_iIsMaker m) ?_; try simp -dsimp -implicitDefEqProofs only [go_sem, ↓reduceIte, Nat.reduceEqDiff, Nat.reduceLT, Nat.reduceAdd, Nat.reduceMul, Nat.reduceLeDiff, Nat.le_refl, Int.natCast_zero, Int.toNat_natCast, Int.reduceToNat, *])
      | (refine sCallT_one (c_iIsTable t h h2) ?_; try simp -dsimp -implicitDefEqProofs only [go_sem, ↓reduceIte, Nat.reduceEqDiff, Nat.reduceLT, Nat.reduceAdd, Nat.reduceMul, Nat.reduceLeDiff, Nat.le_refl, Int.natCast_zero, Int.toNat_natCast, Int.reduceToNat, *])
    all_goals first
      | omega
      | (simp_all [isSy]; done)
      | trace_state
  obtain ⟨hb1, hb2⟩ := Bool.and_eq_true_iff.1 hb
  obtain ⟨n1, n2, n3, n4, n5⟩ := isTb_num hb2
  have h00 : 0 < t.length := by omega
  have g0 := get_some h00
  have gd : t.getD 0 [] = t[0] := by simp [List.getD_eq_getElem?_getD, h00]
  rw [gd] at n3 n4 n5
  simp -dsimp -implicitDefEqProofs only [go_sem, ↓reduceIte, Nat.reduceEqDiff, Nat.reduceLT, Nat.reduceAdd, Nat.reduceMul, Nat.reduceLeDiff, Nat.le_refl, Int.natCast_zero, Int.toNat_natCast, Int.reduceToNat, g0]
  repeat' first
    | (refine Br.intro (fun _ => ?_) (fun _ => ?_) <;> try simp -dsimp -implicitDefEqProofs only [go_sem, ↓reduceIte, Nat.reduceEqDiff, Nat.reduceLT, Nat.reduceAdd, Nat.reduceMul, Nat.reduceLeDiff, Nat.le_refl, Int.natCast_zero, Int.toNat_natCast, Int.reduceToNat, *])
    | (with_reducible refine And.intro ?_ ?_)
    | (refine sCallT_one (c_iIsMaker m) ?_; try simp -dsimp -implicitDefEqProofs only [go_sem, ↓reduceIte, Nat.reduceEqDiff, Nat.reduceLT, Nat.reduceAdd, Nat.reduceMul, Nat.reduceLeDiff, Nat.le_refl, Int.natCast_zero, Int.toNat_natCast, Int.reduceToNat, *])
    | (refine sCallT_one (c_iIsTable t h h2) ?_; try simp -dsimp -implicitDefEqProofs only [go_sem, ↓reduceIte, Nat.reduceEqDiff, Nat.reduceLT, Nat.reduceAdd, Nat.reduceMul, Nat.reduceLeDiff, Nat.le_refl, Int.natCast_zero, Int.toNat_natCast, Int.reduceToNat, *])
  all_goals try (first | omega | (simp_all; done))
  refine Later.up [1, 18] [24, 25] [] t[0].length (fun i => (List.range i).all (doorOpen t)) (fun i => [(19, eI i)]) (fun _ => []) (by simp) ?_ rfl (fun i hi hI => ?_) (fun hI => ?_)
  · simp -dsimp -implicitDefEqProofs only [go_sem, ↓reduceIte, Nat.reduceEqDiff, Nat.reduceLT, Nat.reduceAdd, Nat.reduceMul, Nat.reduceLeDiff, Nat.le_refl, Int.natCast_zero, Int.toNat_natCast, Int.reduceToNat, g0]
  · have no : doorOpen t i = false → isSy m t = false := fun h => by
      have : doorsOpen t = false := by rw [doorsOpen, gd]; exact range_all_no hi h
      simp [isSy, this]
    have yes : doorOpen t i = true → (List.range (i + 1)).all (doorOpen t) = true := fun h => by rw [range_all_succ, hI, h]; rfl
    have hr := rowsOn_nil t i
    clear hI gd
    simp -dsimp -implicitDefEqProofs only [pick_nil, pick_cons, look_nil, look_cons, dropB_nil, dropB_cons, inD_nil, inD_cons, inE_nil, inE_cons, or_t_l, or_f_l, Nat.reduceBEq, Nat.reduceDiv, Nat.reduceAdd, beq_self_eq_true, Bool.false_eq_true, Bool.or_false, ↓reduceIte, Nat.reduceEqDiff, List.cons_append, List.nil_append]
    simp -dsimp -implicitDefEqProofs only [go_sem, ↓reduceIte, Nat.reduceEqDiff, Nat.reduceLT, Nat.reduceAdd, Nat.reduceMul, Nat.reduceLeDiff, Nat.le_refl, Int.natCast_zero, Int.toNat_natCast, Int.reduceToNat, lt_len hi, hr]
    repeat' first
      | (refine Br.intro (fun _ => ?_) (fun _ => ?_) <;> try simp -dsimp -implicitDefEqProofs only [go_sem, ↓reduceIte, Nat.reduceEqDiff, Nat.reduceLT, Nat.reduceAdd, Nat.reduceMul, Nat.reduceLeDiff, Nat.le_refl, Int.natCast_zero, Int.toNat_natCast, Int.reduceToNat, *])
      | (with_reducible refine And.intro ?_ ?_)
      | (refine sCallT_one (c_rowsFor m t i h (fun j hj => by rw [n5 j hj]; exact hi)) ?_; try simp -dsimp -implicitDefEqProofs only [go_sem, ↓reduceIte, Nat.reduceEqDiff, Nat.reduceLT, Nat.reduceAdd, Nat.reduceMul, Nat.reduceLeDiff, Nat.le_refl, Int.natCast_zero, Int.toNat_natCast, Int.reduceToNat, lt_len hi, hr])
    all_goals first
      | omega
      | (refine ⟨?_, ?_⟩ <;> omega)
      | rfl
      | (simp; done)
      | (rw [no]; clear no yes; simp_all; done)
      | (rw [← List.range_succ]; refine yes ?_; clear no yes; simp_all; done)
      | trace_state
  · simp -dsimp -implicitDefEqProofs only [pick_nil, pick_cons, look_nil, look_cons, dropB_nil, dropB_cons, inD_nil, inD_cons, inE_nil, inE_cons, or_t_l, or_f_l, Nat.reduceBEq, Nat.reduceDiv, Nat.reduceAdd, beq_self_eq_true, Bool.false_eq_true, Bool.or_false, ↓reduceIte, Nat.reduceEqDiff, List.cons_append, List.nil_append]
    simp -dsimp -implicitDefEqProofs only [go_sem, ↓reduceIte, Nat.reduceEqDiff, Nat.reduceLT, Nat.reduceAdd, Nat.reduceMul, Nat.reduceLeDiff, Nat.le_refl, Int.natCast_zero, Int.toNat_natCast, Int.reduceToNat, nlt_len]
    first
      | (rw [isSy, hb1, hb2, doorsOpen, gd, hI]; rfl)
      | trace_state
theorem c_sIsSystem (m : MkM) (t : List (List Int)) (h : t.length ≤ 1048576) (h2 : ∀ x ∈ t, x.length ≤ 1048576) : Fn Tryz.prog 92 [eSy m t] true (· = eB (isSy m t)) := by
  refine Fn.of_vcN 46 [.tmp 2] Tryz.func92 rfl rfl rfl rfl rfl (of_decide_eq_true rfl) ?_
  rcases hb : (isMk m && isTb t) with _ | _
  · simp -dsimp -implicitDefEqProofs only [go_sem, ↓reduceIte, Nat.reduceEqDiff, Nat.reduceLT, Nat.reduceAdd, Nat.reduceMul, Nat.reduceLeDiff, Nat.le_refl, Int.natCast_zero, Int.toNat_natCast, Int.reduceToNat]
    repeat' first
      | (refine Br.intro (fun _ => ?_) (fun _ => ?_) <;> try simp -dsimp -implicitDefEqProofs only [go_sem, ↓reduceIte, Nat.reduceEqDiff, Nat.reduceLT, Nat.reduceAdd, Nat.reduceMul, Nat.reduceLeDiff, Nat.le_refl, Int.natCast_zero, Int.toNat_natCast, Int.reduceToNat, *])
      | (with_reducible refine And.intro ?_ ?_)
      | (refine sCallT_one (c_sIsMaker m) ?_; try simp -dsimp -implicitDefEqProofs only [go_sem, ↓reduceIte, Nat.reduceEqDiff, Nat.reduceLT, Nat.reduceAdd, Nat.reduceMul, Nat.reduceLeDiff, Nat.le_refl, Int.natCast_zero, Int.toNat_natCast, Int.reduceToNat, *])
      | (refine sCallT_one (c_sIsTable t h h2) ?_; try simp -dsimp -implicitDefEqProofs only [go_sem, ↓reduceIte, Nat.reduceEqDiff, Nat.reduceLT, Nat.reduceAdd, Nat.reduceMul, Nat.reduceLeDiff, Nat.le_refl, Int.natCast_zero, Int.toNat_natCast, Int.reduceToNat, *])
    all_goals first
      | omega
      | (simp_all [isSy]; done)
      | trace_state
  obtain ⟨hb1, hb2⟩ := Bool.and_eq_true_iff.1 hb
  obtain ⟨n1, n2, n3, n4, n5⟩ := isTb_num hb2
  have h00 : 0 < t.length := by omega
  have g0 := get_some h00
  have gd : t.getD 0 [] = t[0] := by simp [List.getD_eq_getElem?_getD, h00]
  rw [gd] at n3 n4 n5
  simp -dsimp -implicitDefEqProofs only [go_sem, ↓reduceIte, Nat.reduceEqDiff, Nat.reduceLT, Nat.reduceAdd, Nat.reduceMul, Nat.reduceLeDiff, Nat.le_refl, Int.natCast_zero, Int.toNat_natCast, Int.reduceToNat, g0]
  repeat' first
    | (refine Br.intro (fun _ => ?_) (fun _ => ?_) <;> try simp -dsimp -implicitDefEqProofs only [go_sem, ↓reduceIte, Nat.reduceEqDiff, Nat.reduceLT, Nat.reduceAdd, Nat.reduceMul, Nat.reduceLeDiff, Nat.le_refl, Int.natCast_zero, Int.toNat_natCast, Int.reduceToNat, *])
    | (with_reducible refine And.intro ?_ ?_)
    | (refine sCallT_one (c_sIsMaker m) ?_; try simp -dsimp -implicitDefEqProofs only [go_sem, ↓reduceIte, Nat.reduceEqDiff, Nat.reduceLT, Nat.reduceAdd, Nat.reduceMul, Nat.reduceLeDiff, Nat.le_refl, Int.natCast_zero, Int.toNat_natCast, Int.reduceToNat, *])
    | (refine sCallT_one (c_sIsTable t h h2) ?_; try simp -dsimp -implicitDefEqProofs only [go_sem, ↓reduceIte, Nat.reduceEqDiff, Nat.reduceLT, Nat.reduceAdd, Nat.reduceMul, Nat.reduceLeDiff, Nat.le_refl, Int.natCast_zero, Int.toNat_natCast, Int.reduceToNat, *])
  all_goals try (first | omega | (simp_all; done))
  refine Later.up [1] [21, 28] [] t[0].length (fun i => (List.range i).all (doorOpen t)) (fun i => [(3, eI i)]) (fun _ => []) (by simp) ?_ rfl (fun i hi hI => ?_) (fun hI => ?_)
  · simp -dsimp -implicitDefEqProofs only [go_sem, ↓reduceIte, Nat.reduceEqDiff, Nat.reduceLT, Nat.reduceAdd, Nat.reduceMul, Nat.reduceLeDiff, Nat.le_refl, Int.natCast_zero, Int.toNat_natCast, Int.reduceToNat, g0]
  · have no : doorOpen t i = false → isSy m t = false := fun h => by
      have : doorsOpen t = false := by rw [doorsOpen, gd]; exact range_all_no hi h
      simp [isSy, this]
    have yes : doorOpen t i = true → (List.range (i + 1)).all (doorOpen t) = true := fun h => by rw [range_all_succ, hI, h]; rfl
    clear hI gd
    simp -dsimp -implicitDefEqProofs only [pick_nil, pick_cons, look_nil, look_cons, dropB_nil, dropB_cons, inD_nil, inD_cons, inE_nil, inE_cons, or_t_l, or_f_l, Nat.reduceBEq, Nat.reduceDiv, Nat.reduceAdd, beq_self_eq_true, Bool.false_eq_true, Bool.or_false, ↓reduceIte, Nat.reduceEqDiff, List.cons_append, List.nil_append]
    simp -dsimp -implicitDefEqProofs only [go_sem, ↓reduceIte, Nat.reduceEqDiff, Nat.reduceLT, Nat.reduceAdd, Nat.reduceMul, Nat.reduceLeDiff, Nat.le_refl, Int.natCast_zero, Int.toNat_natCast, Int.reduceToNat, lt_len hi, g0]
    repeat' first
      | (refine Br.intro (fun _ => ?_) (fun _ => ?_) <;> try simp -dsimp -implicitDefEqProofs only [go_sem, ↓reduceIte, Nat.reduceEqDiff, Nat.reduceLT, Nat.reduceAdd, Nat.reduceMul, Nat.reduceLeDiff, Nat.le_refl, Int.natCast_zero, Int.toNat_natCast, Int.reduceToNat, *])
      | (with_reducible refine And.intro ?_ ?_)
    all_goals try (first | omega | rfl | (simp; done))
    refine Later.up [1, 3] [28] [] t.length (fun _ => True) (fun j => [(5, eI j), (4, eB ((t.take j).any fun r => r.getD i 0 == 1))]) (fun _ => []) trivial ?_ rfl (fun j hj _ => ?_) (fun _ => ?_)
    · simp -dsimp -implicitDefEqProofs only [go_sem, ↓reduceIte, Nat.reduceEqDiff, Nat.reduceLT, Nat.reduceAdd, Nat.reduceMul, Nat.reduceLeDiff, Nat.le_refl, Int.natCast_zero, Int.toNat_natCast, Int.reduceToNat, List.take_zero, List.any_nil]
    · have gj := get_some hj
      have lj := lt_len hj
      have hij : i < t[j].length := by rw [n5 j hj]; exact hi
      have gij := get_some hij
      have ha := any_take (fun r => r.getD i 0 == 1) t j hj
      have he : t[j].getD i 0 = t[j][i] := by simp [List.getD_eq_getElem?_getD, hij]
      rw [he] at ha
      clear he no yes
      simp -dsimp -implicitDefEqProofs only [pick_nil, pick_cons, look_nil, look_cons, dropB_nil, dropB_cons, inD_nil, inD_cons, inE_nil, inE_cons, or_t_l, or_f_l, Nat.reduceBEq, Nat.reduceDiv, Nat.reduceAdd, beq_self_eq_true, Bool.false_eq_true, Bool.or_false, ↓reduceIte, Nat.reduceEqDiff, List.cons_append, List.nil_append]
      rw [ha]
      clear ha
      simp -dsimp -implicitDefEqProofs only [go_sem, ↓reduceIte, Nat.reduceEqDiff, Nat.reduceLT, Nat.reduceAdd, Nat.reduceMul, Nat.reduceLeDiff, Nat.le_refl, Int.natCast_zero, Int.toNat_natCast, Int.reduceToNat, gj, lj, gij]
      repeat' first
        | (refine Br.intro (fun _ => ?_) (fun _ => ?_) <;> try simp -dsimp -implicitDefEqProofs only [go_sem, ↓reduceIte, Nat.reduceEqDiff, Nat.reduceLT, Nat.reduceAdd, Nat.reduceMul, Nat.reduceLeDiff, Nat.le_refl, Int.natCast_zero, Int.toNat_natCast, Int.reduceToNat, *])
        | (with_reducible refine And.intro ?_ ?_)
        | (refine Later.draw mixed rfl ?_; try simp -dsimp -implicitDefEqProofs only [go_sem, ↓reduceIte, Nat.reduceEqDiff, Nat.reduceLT, Nat.reduceAdd, Nat.reduceMul, Nat.reduceLeDiff, Nat.le_refl, Int.natCast_zero, Int.toNat_natCast, Int.reduceToNat, *])
      all_goals first
        | omega
        | (refine ⟨?_, ?_⟩ <;> omega)
        | rfl
        | (simp; done)
        | (simp_all; done)
        | trace_state
    · simp -dsimp -implicitDefEqProofs only [pick_nil, pick_cons, look_nil, look_cons, dropB_nil, dropB_cons, inD_nil, inD_cons, inE_nil, inE_cons, or_t_l, or_f_l, Nat.reduceBEq, Nat.reduceDiv, Nat.reduceAdd, beq_self_eq_true, Bool.false_eq_true, Bool.or_false, ↓reduceIte, Nat.reduceEqDiff, List.cons_append, List.nil_append]
      simp -dsimp -implicitDefEqProofs only [go_sem, ↓reduceIte, Nat.reduceEqDiff, Nat.reduceLT, Nat.reduceAdd, Nat.reduceMul, Nat.reduceLeDiff, Nat.le_refl, Int.natCast_zero, Int.toNat_natCast, Int.reduceToNat, nlt_len]
      rw [List.take_length]
      have hd : (t.any fun r => r.getD i 0 == 1) = doorOpen t i := rfl
      rw [hd]
      repeat' first
        | (refine Br.intro (fun _ => ?_) (fun _ => ?_) <;> try simp -dsimp -implicitDefEqProofs only [go_sem, ↓reduceIte, Nat.reduceEqDiff, Nat.reduceLT, Nat.reduceAdd, Nat.reduceMul, Nat.reduceLeDiff, Nat.le_refl, Int.natCast_zero, Int.toNat_natCast, Int.reduceToNat, *])
        | (with_reducible refine And.intro ?_ ?_)
      all_goals first
        | omega
        | (refine ⟨?_, ?_⟩ <;> omega)
        | rfl
        | (simp; done)
        | (rw [no]; clear no yes; simp_all; done)
        | (rw [← List.range_succ]; refine yes ?_; clear no yes; simp_all; done)
        | trace_state
  · simp -dsimp -implicitDefEqProofs only [pick_nil, pick_cons, look_nil, look_cons, dropB_nil, dropB_cons, inD_nil, inD_cons, inE_nil, inE_cons, or_t_l, or_f_l, Nat.reduceBEq, Nat.reduceDiv, Nat.reduceAdd, beq_self_eq_true, Bool.false_eq_true, Bool.or_false, ↓reduceIte, Nat.reduceEqDiff, List.cons_append, List.nil_append]
    simp -dsimp -implicitDefEqProofs only [go_sem, ↓reduceIte, Nat.reduceEqDiff, Nat.reduceLT, Nat.reduceAdd, Nat.reduceMul, Nat.reduceLeDiff, Nat.le_refl, Int.natCast_zero, Int.toNat_natCast, Int.reduceToNat, nlt_len, g0]
    repeat' (with_reducible refine And.intro ?_ ?_)
    all_goals first
      | omega
      | (rw [isSy, hb1, hb2, doorsOpen, gd, hI]; rfl)
      | trace_state
end Go.Vc


/-
  Contracts of the functions on orders.
-/
set_option linter.unusedVariables false
set_option linter.unusedSimpArgs false
set_option linter.unnecessarySimpa false
namespace Go.Vc
open Go.Proofs
set_option maxRecDepth 100000
structure ItM where
  key : Bool
  index : Int
  copies : Int
  deriving DecidableEq, Inhabited
abbrev eIt (x : ItM) : AV := .agg [eB x.key, eI x.index, eI x.copies]
abbrev eIts (xs : List ItM) : AV := .arr ⟨3, true⟩ (xs.map eIt)
def itOk (d n : Nat) (x : ItM) : Bool := isIn x.index 0 ((if x.key then (n : Int) else d) - 1) && isIn x.copies 1 50
def isOrd (t : List (List Int)) (os : List ItM) : Bool := os.all (itOk (t.getD 0 []).length t.length) && decide (os.length ≤ 20)
theorem isOrd_no {t : List (List Int)} {os : List ItM} {i : Nat} (hi : i < os.length) (h : itOk (t.getD 0 []).length t.length os[i] = false) : isOrd t os = false := by
  rw [isOrd, all_no hi h]; simp
def ordCode (m : MkM) (t : List (List Int)) (os : List ItM) : Int := if isSy m t then (if isOrd t os then 0 else 2) else 1
theorem le20 (n : Nat) : decide ((n : Int) ≤ 20) = decide (n ≤ 20) := by rw [decide_eq_decide]; omega
theorem c_iisOrder (m : MkM) (t : List (List Int)) (os : List ItM) (h0 : 0 < t.length) (h : t.length ≤ 1048576) (h2 : ∀ x ∈ t, x.length ≤ 1048576) (h3 : os.length ≤ 2097152) : Fn Tryz.prog 62 [eSy m t, eIts os] true (· = eB (isOrd t os)) := by
  refine Fn.of_vcN 40 [.tmp 4] Tryz.func62 rfl rfl rfl rfl rfl (of_decide_eq_true rfl) ?_
  have g0 := get_some h0
  have gd : t.getD 0 [] = t[0] := by simp [List.getD_eq_getElem?_getD, h0]
  have hx0 := h2 t[0] (List.getElem_mem h0)
  simp -dsimp -implicitDefEqProofs only [go_sem, ↓reduceIte, Nat.reduceEqDiff, Nat.reduceLT, Nat.reduceAdd, Nat.reduceMul, Nat.reduceLeDiff, Nat.le_refl, Int.natCast_zero, Int.toNat_natCast, Int.reduceToNat]
  refine Later.up [1, 2, 8, 9] [6, 18, 23, 28, 33] [] os.length (fun i => (os.take i).all (itOk t[0].length t.length)) (fun i => [(10, eI i)]) (fun _ => []) (by simp) ?_ rfl (fun i hi hI => ?_) (fun hI => ?_)
  · simp -dsimp -implicitDefEqProofs only [go_sem, ↓reduceIte, Nat.reduceEqDiff, Nat.reduceLT, Nat.reduceAdd, Nat.reduceMul, Nat.reduceLeDiff, Nat.le_refl, Int.natCast_zero, Int.toNat_natCast, Int.reduceToNat]
  · have gi := get_some hi
    have li := lt_len hi
    have no : itOk t[0].length t.length os[i] = false → isOrd t os = false := fun h => isOrd_no hi (by rw [gd]; exact h)
    have yes : itOk t[0].length t.length os[i] = true → (os.take (i + 1)).all (itOk t[0].length t.length) = true := fun h => by rw [all_take _ _ _ hi, hI, h]; rfl
    clear gd hI
    simp -dsimp -implicitDefEqProofs only [pick_nil, pick_cons, look_nil, look_cons, dropB_nil, dropB_cons, inD_nil, inD_cons, inE_nil, inE_cons, or_t_l, or_f_l, Nat.reduceBEq, Nat.reduceDiv, Nat.reduceAdd, beq_self_eq_true, Bool.false_eq_true, Bool.or_false, ↓reduceIte, Nat.reduceEqDiff, List.cons_append, List.nil_append]
    simp -dsimp -implicitDefEqProofs only [go_sem, ↓reduceIte, Nat.reduceEqDiff, Nat.reduceLT, Nat.reduceAdd, Nat.reduceMul, Nat.reduceLeDiff, Nat.le_refl, Int.natCast_zero, Int.toNat_natCast, Int.reduceToNat, li, gi, g0]
    repeat' first
      | (refine Br.intro (fun _ => ?_) (fun _ => ?_) <;> try simp -dsimp -implicitDefEqProofs only [go_sem, ↓reduceIte, Nat.reduceEqDiff, Nat.reduceLT, Nat.reduceAdd, Nat.reduceMul, Nat.reduceLeDiff, Nat.le_refl, Int.natCast_zero, Int.toNat_natCast, Int.reduceToNat, *])
      | (with_reducible refine And.intro ?_ ?_)
      | (refine sCallT_one (c_within _ _ _) ?_; try simp -dsimp -implicitDefEqProofs only [go_sem, ↓reduceIte, Nat.reduceEqDiff, Nat.reduceLT, Nat.reduceAdd, Nat.reduceMul, Nat.reduceLeDiff, Nat.le_refl, Int.natCast_zero, Int.toNat_natCast, Int.reduceToNat, *])
    all_goals first
      | omega
      | (refine ⟨?_, ?_⟩ <;> omega)
      | rfl
      | (simp; done)
      | (rw [no]; clear no yes; simp_all [itOk, isIn]; done) | (rw [no]; clear no yes; simp_all [itOk, isIn]; omega) | (refine yes ?_; clear no yes; simp_all [itOk, isIn]; done) | (refine yes ?_; clear no yes; simp_all [itOk, isIn]; omega)
      | trace_state
  · simp -dsimp -implicitDefEqProofs only [pick_nil, pick_cons, look_nil, look_cons, dropB_nil, dropB_cons, inD_nil, inD_cons, inE_nil, inE_cons, or_t_l, or_f_l, Nat.reduceBEq, Nat.reduceDiv, Nat.reduceAdd, beq_self_eq_true, Bool.false_eq_true, Bool.or_false, ↓reduceIte, Nat.reduceEqDiff, List.cons_append, List.nil_append]
    simp -dsimp -implicitDefEqProofs only [go_sem, ↓reduceIte, Nat.reduceEqDiff, Nat.reduceLT, Nat.reduceAdd, Nat.reduceMul, Nat.reduceLeDiff, Nat.le_refl, Int.natCast_zero, Int.toNat_natCast, Int.reduceToNat, nlt_len]
    rw [List.take_length] at hI
    repeat' (with_reducible refine And.intro ?_ ?_)
    all_goals first
      | omega
      | (rw [isOrd, gd, hI, le20]; rfl)
      | trace_state
theorem c_l29Valid (m : MkM) (t : List (List Int)) (os : List ItM) (h0 : 0 < t.length) (h : t.length ≤ 1048576) (h2 : ∀ x ∈ t, x.length ≤ 1048576) (h3 : os.length ≤ 2097152) : Fn Tryz.prog 70 [eSy m t, eIts os] true (· = eB (isOrd t os)) := by
  refine Fn.of_vcN 47 [.tmp 4] Tryz.func70 rfl rfl rfl rfl rfl (of_decide_eq_true rfl) ?_
  have g0 := get_some h0
  have gd : t.getD 0 [] = t[0] := by simp [List.getD_eq_getElem?_getD, h0]
  have hx0 := h2 t[0] (List.getElem_mem h0)
  simp -dsimp -implicitDefEqProofs only [go_sem, ↓reduceIte, Nat.reduceEqDiff, Nat.reduceLT, Nat.reduceAdd, Nat.reduceMul, Nat.reduceLeDiff, Nat.le_refl, Int.natCast_zero, Int.toNat_natCast, Int.reduceToNat]
  refine Later.up [1, 2] [9, 17, 25, 33, 41] [] os.length (fun i => (os.take i).all (itOk t[0].length t.length)) (fun i => [(5, eI i)]) (fun _ => []) (by simp) ?_ rfl (fun i hi hI => ?_) (fun hI => ?_)
  · simp -dsimp -implicitDefEqProofs only [go_sem, ↓reduceIte, Nat.reduceEqDiff, Nat.reduceLT, Nat.reduceAdd, Nat.reduceMul, Nat.reduceLeDiff, Nat.le_refl, Int.natCast_zero, Int.toNat_natCast, Int.reduceToNat]
  · have gi := get_some hi
    have li := lt_len hi
    have no : itOk t[0].length t.length os[i] = false → isOrd t os = false := fun h => isOrd_no hi (by rw [gd]; exact h)
    have yes : itOk t[0].length t.length os[i] = true → (os.take (i + 1)).all (itOk t[0].length t.length) = true := fun h => by rw [all_take _ _ _ hi, hI, h]; rfl
    clear gd hI
    simp -dsimp -implicitDefEqProofs only [pick_nil, pick_cons, look_nil, look_cons, dropB_nil, dropB_cons, inD_nil, inD_cons, inE_nil, inE_cons, or_t_l, or_f_l, Nat.reduceBEq, Nat.reduceDiv, Nat.reduceAdd, beq_self_eq_true, Bool.false_eq_true, Bool.or_false, ↓reduceIte, Nat.reduceEqDiff, List.cons_append, List.nil_append]
    simp -dsimp -implicitDefEqProofs only [go_sem, ↓reduceIte, Nat.reduceEqDiff, Nat.reduceLT, Nat.reduceAdd, Nat.reduceMul, Nat.reduceLeDiff, Nat.le_refl, Int.natCast_zero, Int.toNat_natCast, Int.reduceToNat, li, gi, g0]
    repeat' first
      | (refine Br.intro (fun _ => ?_) (fun _ => ?_) <;> try simp -dsimp -implicitDefEqProofs only [go_sem, ↓reduceIte, Nat.reduceEqDiff, Nat.reduceLT, Nat.reduceAdd, Nat.reduceMul, Nat.reduceLeDiff, Nat.le_refl, Int.natCast_zero, Int.toNat_natCast, Int.reduceToNat, *])
      | (with_reducible refine And.intro ?_ ?_)
      | (refine sCallT_one (c_l01In _ _ _) ?_; try simp -dsimp -implicitDefEqProofs only [go_sem, ↓reduceIte, Nat.reduceEqDiff, Nat.reduceLT, Nat.reduceAdd, Nat.reduceMul, Nat.reduceLeDiff, Nat.le_refl, Int.natCast_zero, Int.toNat_natCast, Int.reduceToNat, *])
    all_goals first
      | omega
      | (refine ⟨?_, ?_⟩ <;> omega)
      | rfl
      | (simp; done)
      | (rw [no]; clear no yes; simp_all [itOk, isIn]; done) | (rw [no]; clear no yes; simp_all [itOk, isIn]; omega) | (refine yes ?_; clear no yes; simp_all [itOk, isIn]; done) | (refine yes ?_; clear no yes; simp_all [itOk, isIn]; omega)
      | trace_state
  · simp -dsimp -implicitDefEqProofs only [pick_nil, pick_cons, look_nil, look_cons, dropB_nil, dropB_cons, inD_nil, inD_cons, inE_nil, inE_cons, or_t_l, or_f_l, Nat.reduceBEq, Nat.reduceDiv, Nat.reduceAdd, beq_self_eq_true, Bool.false_eq_true, Bool.or_false, ↓reduceIte, Nat.reduceEqDiff, List.cons_append, List.nil_append]
    simp -dsimp -implicitDefEqProofs only [go_sem, ↓reduceIte, Nat.reduceEqDiff, Nat.reduceLT, Nat.reduceAdd, Nat.reduceMul, Nat.reduceLeDiff, Nat.le_refl, Int.natCast_zero, Int.toNat_natCast, Int.reduceToNat, nlt_len]
    rw [List.take_length] at hI
    repeat' (with_reducible refine And.intro ?_ ?_)
    all_goals first
      | omega
      | (rw [isOrd, gd, hI, le20]; rfl)
      | trace_state
theorem c_orderCode (m : MkM) (t : List (List Int)) (os : List ItM) (h : t.length ≤ 1048576) (h2 : ∀ x ∈ t, x.length ≤ 1048576) (h3 : os.length ≤ 1048576) : Fn Tryz.prog 58 [eSy m t, eIts os] true (· = eI (ordCode m t os)) := by
  refine Fn.of_vcN 12 [.tmp 4] Tryz.func58 rfl rfl rfl rfl rfl (of_decide_eq_true rfl) ?_
  rcases hb : isSy m t with _ | _
  · simp -dsimp -implicitDefEqProofs only [go_sem, ↓reduceIte, Nat.reduceEqDiff, Nat.reduceLT, Nat.reduceAdd, Nat.reduceMul, Nat.reduceLeDiff, Nat.le_refl, Int.natCast_zero, Int.toNat_natCast, Int.reduceToNat]
    repeat' first
      | (refine Br.intro (fun _ => ?_) (fun _ => ?_) <;> try simp -dsimp -implicitDefEqProofs only [go_sem, ↓reduceIte, Nat.reduceEqDiff, Nat.reduceLT, Nat.reduceAdd, Nat.reduceMul, Nat.reduceLeDiff, Nat.le_refl, Int.natCast_zero, Int.toNat_natCast, Int.reduceToNat, *])
      | (with_reducible refine And.intro ?_ ?_)
      | (refine sCallT_one (c_iIsSystem m t h h2) ?_; try simp -dsimp -implicitDefEqProofs only [go_sem, ↓reduceIte, Nat.reduceEqDiff, Nat.reduceLT, Nat.reduceAdd, Nat.reduceMul, Nat.reduceLeDiff, Nat.le_refl, Int.natCast_zero, Int.toNat_natCast, Int.reduceToNat, *])
    all_goals first
      | omega
      | (simp_all [ordCode]; done)
      | trace_state
  have h0 : 0 < t.length := (isSy_num hb).1
  simp -dsimp -implicitDefEqProofs only [go_sem, ↓reduceIte, Nat.reduceEqDiff, Nat.reduceLT, Nat.reduceAdd, Nat.reduceMul, Nat.reduceLeDiff, Nat.le_refl, Int.natCast_zero, Int.toNat_natCast, Int.reduceToNat]
  repeat' first
    | (refine Br.intro (fun _ => ?_) (fun _ => ?_) <;> try simp -dsimp -implicitDefEqProofs only [go_sem, ↓reduceIte, Nat.reduceEqDiff, Nat.reduceLT, Nat.reduceAdd, Nat.reduceMul, Nat.reduceLeDiff, Nat.le_refl, Int.natCast_zero, Int.toNat_natCast, Int.reduceToNat, *])
    | (with_reducible refine And.intro ?_ ?_)
    | (refine sCallT_one (c_iIsSystem m t h h2) ?_; try simp -dsimp -implicitDefEqProofs only [go_sem, ↓reduceIte, Nat.reduceEqDiff, Nat.reduceLT, Nat.reduceAdd, Nat.reduceMul, Nat.reduceLeDiff, Nat.le_refl, Int.natCast_zero, Int.toNat_natCast, Int.reduceToNat, *])
    | (refine sCallT_one (c_iisOrder m t os h0 h h2 (by omega)) ?_; try simp -dsimp -implicitDefEqProofs only [go_sem, ↓reduceIte, Nat.reduceEqDiff, Nat.reduceLT, Nat.reduceAdd, Nat.reduceMul, Nat.reduceLeDiff, Nat.le_refl, Int.natCast_zero, Int.toNat_natCast, Int.reduceToNat, *])
  all_goals first
    | omega
    | (simp_all [ordCode]; done)
    | trace_state
end Go.Vc


/-
  Systems and items, read as data.
-/
set_option linter.unusedVariables false
set_option linter.unusedSimpArgs false
set_option linter.unnecessarySimpa false
namespace Go.Vc
open Go.Proofs
set_option maxRecDepth 100000
theorem dec_Int64S : Dec Tryz.prog 31 (fun xs : List Int => xs.length ≤ maxLen ∧ ∀ a ∈ xs, I64 a) (fun xs => [eIs xs]) :=
  Dec.slice false 1 Tryz.underlying31 (by kernel_rfl) (by decide) (fun _ => rfl) (fun _ => rfl) (Dec.i64 Tryz.underlying2)
theorem dec_Int64SS : Dec Tryz.prog 24 (fun xs : List (List Int) => xs.length ≤ maxLen ∧ ∀ x ∈ xs, x.length ≤ maxLen ∧ ∀ a ∈ x, I64 a) (fun xs => [eIss xs]) :=
  Dec.slice false 1 Tryz.underlying24 (by kernel_rfl) (by decide) (fun _ => rfl) (fun _ => rfl) dec_Int64S
theorem dec_Maker : Dec Tryz.prog 23 (fun m : MkM => I64 m.chambers ∧ I64 m.depths ∧ I64 m.step ∧ I64 m.same ∧ I64 m.least) (fun m => [eI m.chambers, eI m.depths, eI m.step, eI m.same, eI m.least]) :=
  (Dec.struct Tryz.underlying23 (n := 5) (by kernel_rfl) (.cons rfl (n := 1) (by kernel_rfl) (fun _ => rfl) (Dec.i64 Tryz.underlying2) (.cons rfl (n := 1) (by kernel_rfl) (fun _ => rfl) (Dec.i64 Tryz.underlying2)
    (.cons rfl (n := 1) (by kernel_rfl) (fun _ => rfl) (Dec.i64 Tryz.underlying2) (.cons rfl (n := 1) (by kernel_rfl) (fun _ => rfl) (Dec.i64 Tryz.underlying2) (.cons rfl (n := 1) (by kernel_rfl) (fun _ => rfl) (Dec.i64 Tryz.underlying2) (.nil _)))))) (fun _ => rfl)).map
    fun p h => ⟨⟨p.1, p.2.1, p.2.2.1, p.2.2.2.1, p.2.2.2.2.1⟩, ⟨h.1, h.2.1, h.2.2.1, h.2.2.2.1, h.2.2.2.2.1⟩, rfl⟩
theorem dec_System : Dec Tryz.prog 26 (fun s : MkM × List (List Int) => (I64 s.1.chambers ∧ I64 s.1.depths ∧ I64 s.1.step ∧ I64 s.1.same ∧ I64 s.1.least) ∧ s.2.length ≤ maxLen ∧ ∀ x ∈ s.2, x.length ≤ maxLen ∧ ∀ a ∈ x, I64 a)
    (fun s => [eI s.1.chambers, eI s.1.depths, eI s.1.step, eI s.1.same, eI s.1.least, eIss s.2]) :=
  (Dec.struct Tryz.underlying26 (n := 6) (by kernel_rfl) (.cons rfl (n := 5) (by kernel_rfl) (fun _ => rfl) dec_Maker (.cons rfl (n := 1) (by kernel_rfl) (fun _ => rfl) dec_Int64SS (.nil _))) (fun _ => rfl)).map
    fun p h => ⟨(p.1, p.2.1), ⟨h.1, h.2.1⟩, rfl⟩
theorem dec_Item : Dec Tryz.prog 71 (fun x : ItM => I64 x.index ∧ I64 x.copies) (fun x => [eB x.key, eI x.index, eI x.copies]) :=
  (Dec.struct Tryz.underlying71 (n := 3) (by kernel_rfl) (.cons rfl (n := 1) (by kernel_rfl) (fun _ => rfl) (Dec.bool Tryz.underlying4) (.cons rfl (n := 1) (by kernel_rfl) (fun _ => rfl) (Dec.i64 Tryz.underlying2)
    (.cons rfl (n := 1) (by kernel_rfl) (fun _ => rfl) (Dec.i64 Tryz.underlying2) (.nil _)))) (fun _ => rfl)).map
    fun p h => ⟨⟨p.1, p.2.1, p.2.2.1⟩, ⟨h.2.1, h.2.2.1⟩, rfl⟩
theorem dec_ItemS : Dec Tryz.prog 27 (fun xs : List ItM => xs.length ≤ maxLen ∧ ∀ a ∈ xs, I64 a.index ∧ I64 a.copies) (fun xs => [eIts xs]) :=
  Dec.slice true 3 Tryz.underlying27 (by kernel_rfl) (by decide) (fun h => by cases h) (fun _ => rfl) dec_Item
end Go.Vc


/-
  The different numbers of a list, rising; plain facts.
-/
set_option linter.unusedVariables false
set_option linter.unusedSimpArgs false
set_option linter.unnecessarySimpa false
namespace Go.Vc
def rowsL (xs : List Int) : List Int := Lib.compact (xs.mergeSort fun x y => decide (x ≤ y))
theorem mem_compact (zs : List Int) (x : Int) : x ∈ Lib.compact zs ↔ x ∈ zs := by
  unfold Lib.compact Lib.compactUpTo
  have gi : ∀ i, i < zs.length → zs.toArray[i]! = zs.getD i 0 := fun i hi => by simp [List.getD_eq_getElem?_getD, hi]
  constructor
  · intro h
    obtain ⟨j, hj, rfl⟩ := List.mem_map.1 h
    have hj' := List.mem_range.1 (List.mem_filter.1 hj).1
    simp [hj']
  · intro h
    obtain ⟨j, hj, rfl⟩ := List.getElem_of_mem h
    induction j with
    | zero => exact List.mem_map.2 ⟨0, List.mem_filter.2 ⟨List.mem_range.2 hj, by simp [Lib.keeps]⟩, by simp [hj]⟩
    | succ j ih =>
      by_cases e : zs[j + 1] = zs[j]
      · rw [e]; exact ih (by omega) (List.getElem_mem _)
      · refine List.mem_map.2 ⟨j + 1, List.mem_filter.2 ⟨List.mem_range.2 hj, ?_⟩, by simp [hj]⟩
        have h1 : j < zs.length := by omega
        simp [Lib.keeps, hj, h1, e]
theorem compact_pair (zs : List Int) (h : zs.Pairwise (· ≤ ·)) : (Lib.compact zs).Pairwise (· < ·) := by
  unfold Lib.compact Lib.compactUpTo
  rw [List.pairwise_map]
  have hs := List.pairwise_iff_getElem.1 h
  refine List.Pairwise.imp_of_mem ?_ ((List.pairwise_lt_range (n := zs.length)).filter (Lib.keeps zs.toArray))
  intro i j hi hj hij
  have hj' := List.mem_range.1 (List.mem_filter.1 hj).1
  have hk := (List.mem_filter.1 hj).2
  have hi' : i < zs.length := by omega
  have hp : j - 1 < zs.length := by omega
  have h1 : zs[i] ≤ zs[j - 1] := by
    rcases Nat.lt_or_ge i (j - 1) with hh | hh
    · exact hs i (j - 1) _ _ hh
    · have : i = j - 1 := by omega
      subst this; exact Int.le_refl _
  have h2 := hs (j - 1) j hp hj' (by omega)
  have h3 : zs[j] ≠ zs[j - 1] := by
    have : j ≠ 0 := by omega
    simpa [Lib.keeps, this, hj', hp] using hk
  have e1 : zs.toArray[i]! = zs[i] := by simp [hi']
  have e2 : zs.toArray[j]! = zs[j] := by simp [hj']
  rw [e1, e2]; omega
theorem sort_pair (xs : List Int) : (xs.mergeSort fun x y => decide (x ≤ y)).Pairwise (· ≤ ·) := by
  have := List.pairwise_mergeSort (le := fun x y : Int => decide (x ≤ y)) (by intro a b c h1 h2; simp at *; omega) (by intro a b; simp; omega) xs
  exact this.imp fun h => by simpa using h
theorem mem_sort (xs : List Int) (x : Int) : x ∈ (xs.mergeSort fun x y => decide (x ≤ y)) ↔ x ∈ xs := List.mem_mergeSort
theorem rowsL_mem (xs : List Int) (x : Int) : x ∈ rowsL xs ↔ x ∈ xs := by rw [rowsL, mem_compact, mem_sort]
theorem rowsL_pair (xs : List Int) : (rowsL xs).Pairwise (· < ·) := compact_pair _ (sort_pair xs)
theorem rowsL_eq (xs : List Int) : rowsL xs = Lib.compact (xs.mergeSort fun x y => decide (x ≤ y)) := rfl
attribute [irreducible] rowsL
end Go.Vc


/-
  Contracts of the functions on makers and locks.
-/
set_option linter.unusedVariables false
set_option linter.unusedSimpArgs false
set_option linter.unnecessarySimpa false
namespace Go.Vc
open Go.Proofs
set_option maxRecDepth 100000
def lockSet (m : MkM) (xs : List Int) : Bool := decide (xs.length ≠ 0) && rises xs m.depths
def isLk0 (m : MkM) (l : List (List Int)) : Bool := ((l.length : Int) == m.chambers) && l.all (lockSet m)
def isLk (m : MkM) (l : List (List Int)) : Bool := isMk m && isLk0 m l
theorem c_sIsLock (m : MkM) (l : List (List Int)) (h : l.length ≤ 1048576) (h2 : ∀ x ∈ l, x.length ≤ 1048576) : Fn Tryz.prog 72 [eMk m, eLk l] true (· = eB (isLk m l)) := by
  refine Fn.of_vcN 42 [.tmp 4] Tryz.func72 rfl rfl rfl rfl rfl (of_decide_eq_true rfl) ?_
  simp -dsimp -implicitDefEqProofs only [go_sem, ↓reduceIte, Nat.reduceEqDiff, Nat.reduceLT, Nat.reduceAdd, Nat.reduceMul, Nat.reduceLeDiff, Nat.le_refl, Int.natCast_zero, Int.toNat_natCast, Int.reduceToNat]
  repeat' first
    | (refine Br.intro (fun _ => ?_) (fun _ => ?_) <;> try simp -dsimp -implicitDefEqProofs only [go_sem, ↓reduceIte, Nat.reduceEqDiff, Nat.reduceLT, Nat.reduceAdd, Nat.reduceMul, Nat.reduceLeDiff, Nat.le_refl, Int.natCast_zero, Int.toNat_natCast, Int.reduceToNat, *])
    | (with_reducible refine And.intro ?_ ?_)
    | (refine sCallT_one (c_sIsMaker _) ?_; try simp -dsimp -implicitDefEqProofs only [go_sem, ↓reduceIte, Nat.reduceEqDiff, Nat.reduceLT, Nat.reduceAdd, Nat.reduceMul, Nat.reduceLeDiff, Nat.le_refl, Int.natCast_zero, Int.toNat_natCast, Int.reduceToNat, *])
  all_goals try (first | omega | (simp_all [isLk, isLk0]; done))
  refine Later.up [2, 3] [20, 29, 39] [] l.length (fun i => (l.take i).all (lockSet m)) (fun i => [(5, eI i)]) (fun _ => []) (by simp) ?_ rfl (fun i hi hI => ?_) (fun hI => ?_)
  · simp -dsimp -implicitDefEqProofs only [go_sem, ↓reduceIte, Nat.reduceEqDiff, Nat.reduceLT, Nat.reduceAdd, Nat.reduceMul, Nat.reduceLeDiff, Nat.le_refl, Int.natCast_zero, Int.toNat_natCast, Int.reduceToNat]
  · simp -dsimp -implicitDefEqProofs only [pick_nil, pick_cons, look_nil, look_cons, dropB_nil, dropB_cons, inD_nil, inD_cons, inE_nil, inE_cons, or_t_l, or_f_l, Nat.reduceBEq, Nat.reduceDiv, Nat.reduceAdd, beq_self_eq_true, Bool.false_eq_true, Bool.or_false, ↓reduceIte, Nat.reduceEqDiff, List.cons_append, List.nil_append]
    have gi := get_some hi
    have li := lt_len hi
    have no : lockSet m l[i] = false → isLk m l = false := fun h => by simp [isLk, isLk0, lockSet, all_no (p := lockSet m) hi h]
    have yes : lockSet m l[i] = true → ((l.take (i + 1)).all (lockSet m)) = true := fun h => by rw [all_take _ _ _ hi, hI]; simpa using h
    simp -dsimp -implicitDefEqProofs only [go_sem, ↓reduceIte, Nat.reduceEqDiff, Nat.reduceLT, Nat.reduceAdd, Nat.reduceMul, Nat.reduceLeDiff, Nat.le_refl, Int.natCast_zero, Int.toNat_natCast, Int.reduceToNat, li, gi]
    repeat' first
      | (refine Br.intro (fun _ => ?_) (fun _ => ?_) <;> try simp -dsimp -implicitDefEqProofs only [go_sem, ↓reduceIte, Nat.reduceEqDiff, Nat.reduceLT, Nat.reduceAdd, Nat.reduceMul, Nat.reduceLeDiff, Nat.le_refl, Int.natCast_zero, Int.toNat_natCast, Int.reduceToNat, *])
      | (with_reducible refine And.intro ?_ ?_)
      | (refine sCallT_one (c_l01Rises l[i] _ (by have := h2 l[i] (List.getElem_mem hi); omega)) ?_; try simp -dsimp -implicitDefEqProofs only [go_sem, ↓reduceIte, Nat.reduceEqDiff, Nat.reduceLT, Nat.reduceAdd, Nat.reduceMul, Nat.reduceLeDiff, Nat.le_refl, Int.natCast_zero, Int.toNat_natCast, Int.reduceToNat, *])
      | (refine sCallX_one (c_l01Rises l[i] _ (by have := h2 l[i] (List.getElem_mem hi); omega)) ?_; try simp -dsimp -implicitDefEqProofs only [go_sem, ↓reduceIte, Nat.reduceEqDiff, Nat.reduceLT, Nat.reduceAdd, Nat.reduceMul, Nat.reduceLeDiff, Nat.le_refl, Int.natCast_zero, Int.toNat_natCast, Int.reduceToNat, *])
      | (refine Later.draw mixed rfl ?_; try simp -dsimp -implicitDefEqProofs only [go_sem, ↓reduceIte, Nat.reduceEqDiff, Nat.reduceLT, Nat.reduceAdd, Nat.reduceMul, Nat.reduceLeDiff, Nat.le_refl, Int.natCast_zero, Int.toNat_natCast, Int.reduceToNat, *])
    all_goals first
      | omega
      | (refine ⟨?_, ?_⟩ <;> omega)
      | (simp; done)
      | rfl
      | (rw [no]; clear no yes; simp_all [isLk, isLk0, lockSet]; done) | (rw [no]; clear no yes; simp_all [isLk, isLk0, lockSet]; omega) | (refine yes ?_; clear no yes; simp_all [isLk, isLk0, lockSet]; done) | (refine yes ?_; clear no yes; simp_all [isLk, isLk0, lockSet]; omega)
      | trace_state
  · simp -dsimp -implicitDefEqProofs only [pick_nil, pick_cons, look_nil, look_cons, dropB_nil, dropB_cons, inD_nil, inD_cons, inE_nil, inE_cons, or_t_l, or_f_l, Nat.reduceBEq, Nat.reduceDiv, Nat.reduceAdd, beq_self_eq_true, Bool.false_eq_true, Bool.or_false, ↓reduceIte, Nat.reduceEqDiff, List.cons_append, List.nil_append]
    simp -dsimp -implicitDefEqProofs only [go_sem, ↓reduceIte, Nat.reduceEqDiff, Nat.reduceLT, Nat.reduceAdd, Nat.reduceMul, Nat.reduceLeDiff, Nat.le_refl, Int.natCast_zero, Int.toNat_natCast, Int.reduceToNat, nlt_len]
    rw [List.take_length] at hI
    first
      | (simp_all [isLk, isLk0]; done)
      | (simp_all [isLk, isLk0]; omega)
      | trace_state
theorem c_isLock (m : MkM) (l : List (List Int)) (h : l.length ≤ 1048576) (h2 : ∀ x ∈ l, x.length ≤ 1048576) : Fn Tryz.prog 100 [eMk m, eLk l] true (· = eB (isLk0 m l)) := by
  refine Fn.of_vcN 31 [.tmp 4] Tryz.func100 rfl rfl rfl rfl rfl (of_decide_eq_true rfl) ?_
  simp -dsimp -implicitDefEqProofs only [go_sem, ↓reduceIte, Nat.reduceEqDiff, Nat.reduceLT, Nat.reduceAdd, Nat.reduceMul, Nat.reduceLeDiff, Nat.le_refl, Int.natCast_zero, Int.toNat_natCast, Int.reduceToNat]
  refine Later.up [2, 3, 8, 9] [15, 21] [] l.length (fun i => (l.take i).all (lockSet m)) (fun i => [(10, eI i)]) (fun _ => []) (by simp) ?_ rfl (fun i hi hI => ?_) (fun hI => ?_)
  · simp -dsimp -implicitDefEqProofs only [go_sem, ↓reduceIte, Nat.reduceEqDiff, Nat.reduceLT, Nat.reduceAdd, Nat.reduceMul, Nat.reduceLeDiff, Nat.le_refl, Int.natCast_zero, Int.toNat_natCast, Int.reduceToNat]
  · simp -dsimp -implicitDefEqProofs only [pick_nil, pick_cons, look_nil, look_cons, dropB_nil, dropB_cons, inD_nil, inD_cons, inE_nil, inE_cons, or_t_l, or_f_l, Nat.reduceBEq, Nat.reduceDiv, Nat.reduceAdd, beq_self_eq_true, Bool.false_eq_true, Bool.or_false, ↓reduceIte, Nat.reduceEqDiff, List.cons_append, List.nil_append]
    have gi := get_some hi
    have li := lt_len hi
    have no : lockSet m l[i] = false → isLk0 m l = false := fun h => by simp [isLk0, lockSet, all_no (p := lockSet m) hi h]
    have yes : lockSet m l[i] = true → ((l.take (i + 1)).all (lockSet m)) = true := fun h => by rw [all_take _ _ _ hi, hI]; simpa using h
    simp -dsimp -implicitDefEqProofs only [go_sem, ↓reduceIte, Nat.reduceEqDiff, Nat.reduceLT, Nat.reduceAdd, Nat.reduceMul, Nat.reduceLeDiff, Nat.le_refl, Int.natCast_zero, Int.toNat_natCast, Int.reduceToNat, li, gi]
    repeat' first
      | (refine Br.intro (fun _ => ?_) (fun _ => ?_) <;> try simp -dsimp -implicitDefEqProofs only [go_sem, ↓reduceIte, Nat.reduceEqDiff, Nat.reduceLT, Nat.reduceAdd, Nat.reduceMul, Nat.reduceLeDiff, Nat.le_refl, Int.natCast_zero, Int.toNat_natCast, Int.reduceToNat, *])
      | (with_reducible refine And.intro ?_ ?_)
      | (refine sCallT_one (c_IsRising l[i] _ (by have := h2 l[i] (List.getElem_mem hi); omega)) ?_; try simp -dsimp -implicitDefEqProofs only [go_sem, ↓reduceIte, Nat.reduceEqDiff, Nat.reduceLT, Nat.reduceAdd, Nat.reduceMul, Nat.reduceLeDiff, Nat.le_refl, Int.natCast_zero, Int.toNat_natCast, Int.reduceToNat, *])
      | (refine sCallX_one (c_IsRising l[i] _ (by have := h2 l[i] (List.getElem_mem hi); omega)) ?_; try simp -dsimp -implicitDefEqProofs only [go_sem, ↓reduceIte, Nat.reduceEqDiff, Nat.reduceLT, Nat.reduceAdd, Nat.reduceMul, Nat.reduceLeDiff, Nat.le_refl, Int.natCast_zero, Int.toNat_natCast, Int.reduceToNat, *])
      | (refine Later.draw mixed rfl ?_; try simp -dsimp -implicitDefEqProofs only [go_sem, ↓reduceIte, Nat.reduceEqDiff, Nat.reduceLT, Nat.reduceAdd, Nat.reduceMul, Nat.reduceLeDiff, Nat.le_refl, Int.natCast_zero, Int.toNat_natCast, Int.reduceToNat, *])
    all_goals first
      | omega
      | (refine ⟨?_, ?_⟩ <;> omega)
      | (simp; done)
      | rfl
      | (rw [no]; clear no yes; simp_all [isLk0, lockSet]; done) | (rw [no]; clear no yes; simp_all [isLk0, lockSet]; omega) | (refine yes ?_; clear no yes; simp_all [isLk0, lockSet]; done) | (refine yes ?_; clear no yes; simp_all [isLk0, lockSet]; omega)
      | trace_state
  · simp -dsimp -implicitDefEqProofs only [pick_nil, pick_cons, look_nil, look_cons, dropB_nil, dropB_cons, inD_nil, inD_cons, inE_nil, inE_cons, or_t_l, or_f_l, Nat.reduceBEq, Nat.reduceDiv, Nat.reduceAdd, beq_self_eq_true, Bool.false_eq_true, Bool.or_false, ↓reduceIte, Nat.reduceEqDiff, List.cons_append, List.nil_append]
    simp -dsimp -implicitDefEqProofs only [go_sem, ↓reduceIte, Nat.reduceEqDiff, Nat.reduceLT, Nat.reduceAdd, Nat.reduceMul, Nat.reduceLeDiff, Nat.le_refl, Int.natCast_zero, Int.toNat_natCast, Int.reduceToNat, nlt_len]
    rw [List.take_length] at hI
    first
      | (simp_all [isLk, isLk0]; done)
      | (simp_all [isLk, isLk0]; omega)
      | trace_state
def lkCodes (m : MkM) (ls : List (List (List Int))) : Int := if isMk m && ls.all (isLk0 m) then 0 else 1
theorem lkCodes_no {m : MkM} {ls : List (List (List Int))} {i : Nat} (hi : i < ls.length) (h : isLk0 m ls[i] = false) : lkCodes m ls = 1 := by
  rw [lkCodes, all_no hi h]; simp
theorem lkCodes_one (m : MkM) (l : List (List Int)) : lkCodes m [l] = if isLk m l then 0 else 1 := by simp [lkCodes, isLk]
theorem c_locksCode (m : MkM) (ls : List (List (List Int))) (h0 : ls.length ≤ 1048576) (h : ∀ l ∈ ls, l.length ≤ 1048576 ∧ ∀ x ∈ l, x.length ≤ 1048576) : Fn Tryz.prog 78 [eMk m, .arr ⟨1, true⟩ (ls.map eLk)] true (· = eI (lkCodes m ls)) := by
  refine Fn.of_vcN 21 [.tmp 4] Tryz.func78 rfl rfl rfl rfl rfl (of_decide_eq_true rfl) ?_
  simp -dsimp -implicitDefEqProofs only [go_sem, ↓reduceIte, Nat.reduceEqDiff, Nat.reduceLT, Nat.reduceAdd, Nat.reduceMul, Nat.reduceLeDiff, Nat.le_refl, Int.natCast_zero, Int.toNat_natCast, Int.reduceToNat]
  repeat' first
    | (refine Br.intro (fun _ => ?_) (fun _ => ?_) <;> try simp -dsimp -implicitDefEqProofs only [go_sem, ↓reduceIte, Nat.reduceEqDiff, Nat.reduceLT, Nat.reduceAdd, Nat.reduceMul, Nat.reduceLeDiff, Nat.le_refl, Int.natCast_zero, Int.toNat_natCast, Int.reduceToNat, *])
    | (with_reducible refine And.intro ?_ ?_)
    | (refine sCallT_one (c_iIsMaker _) ?_; try simp -dsimp -implicitDefEqProofs only [go_sem, ↓reduceIte, Nat.reduceEqDiff, Nat.reduceLT, Nat.reduceAdd, Nat.reduceMul, Nat.reduceLeDiff, Nat.le_refl, Int.natCast_zero, Int.toNat_natCast, Int.reduceToNat, *])
  all_goals try (first | omega | (simp_all [lkCodes]; done))
  refine Later.up [2, 10, 11] [6, 18] [] ls.length (fun i => (ls.take i).all (isLk0 m)) (fun i => [(12, eI i)]) (fun _ => []) (by simp) ?_ rfl (fun i hi hI => ?_) (fun hI => ?_)
  · simp -dsimp -implicitDefEqProofs only [go_sem, ↓reduceIte, Nat.reduceEqDiff, Nat.reduceLT, Nat.reduceAdd, Nat.reduceMul, Nat.reduceLeDiff, Nat.le_refl, Int.natCast_zero, Int.toNat_natCast, Int.reduceToNat]
  · have hx := h ls[i] (List.getElem_mem hi)
    have no := fun h => lkCodes_no (m := m) hi h
    have yes : isLk0 m ls[i] = true → ((ls.take (i + 1)).all (isLk0 m)) = true := fun h => by rw [all_take _ _ _ hi, hI, h]; rfl
    simp -dsimp -implicitDefEqProofs only [pick_nil, pick_cons, look_nil, look_cons, dropB_nil, dropB_cons, inD_nil, inD_cons, inE_nil, inE_cons, or_t_l, or_f_l, Nat.reduceBEq, Nat.reduceDiv, Nat.reduceAdd, beq_self_eq_true, Bool.false_eq_true, Bool.or_false, ↓reduceIte, Nat.reduceEqDiff, List.cons_append, List.nil_append]
    simp -dsimp -implicitDefEqProofs only [go_sem, ↓reduceIte, Nat.reduceEqDiff, Nat.reduceLT, Nat.reduceAdd, Nat.reduceMul, Nat.reduceLeDiff, Nat.le_refl, Int.natCast_zero, Int.toNat_natCast, Int.reduceToNat, lt_len hi, get_some hi]
    repeat' first
      | (refine Br.intro (fun _ => ?_) (fun _ => ?_) <;> try simp -dsimp -implicitDefEqProofs only [go_sem, ↓reduceIte, Nat.reduceEqDiff, Nat.reduceLT, Nat.reduceAdd, Nat.reduceMul, Nat.reduceLeDiff, Nat.le_refl, Int.natCast_zero, Int.toNat_natCast, Int.reduceToNat, *])
      | (with_reducible refine And.intro ?_ ?_)
      | (refine sCallT_one (c_isLock m ls[i] hx.1 hx.2) ?_; try simp -dsimp -implicitDefEqProofs only [go_sem, ↓reduceIte, Nat.reduceEqDiff, Nat.reduceLT, Nat.reduceAdd, Nat.reduceMul, Nat.reduceLeDiff, Nat.le_refl, Int.natCast_zero, Int.toNat_natCast, Int.reduceToNat, *])
    all_goals first
      | omega
      | (refine ⟨?_, ?_⟩ <;> omega)
      | (simp; done)
      | (rw [no]; clear no yes; simp_all []; done) | (rw [no]; clear no yes; simp_all []; omega) | (refine yes ?_; clear no yes; simp_all []; done) | (refine yes ?_; clear no yes; simp_all []; omega)
      | trace_state
  · simp -dsimp -implicitDefEqProofs only [pick_nil, pick_cons, look_nil, look_cons, dropB_nil, dropB_cons, inD_nil, inD_cons, inE_nil, inE_cons, or_t_l, or_f_l, Nat.reduceBEq, Nat.reduceDiv, Nat.reduceAdd, beq_self_eq_true, Bool.false_eq_true, Bool.or_false, ↓reduceIte, Nat.reduceEqDiff, List.cons_append, List.nil_append]
    simp -dsimp -implicitDefEqProofs only [go_sem, ↓reduceIte, Nat.reduceEqDiff, Nat.reduceLT, Nat.reduceAdd, Nat.reduceMul, Nat.reduceLeDiff, Nat.le_refl, Int.natCast_zero, Int.toNat_natCast, Int.reduceToNat, nlt_len]
    rw [List.take_length] at hI
    first
      | (simp_all [lkCodes]; done)
      | trace_state
end Go.Vc


/-
  Contracts: numbers sorted, the different ones of them.
-/
set_option linter.unusedVariables false
set_option linter.unusedSimpArgs false
set_option linter.unnecessarySimpa false
namespace Go.Vc
open Go.Proofs
set_option maxRecDepth 100000
theorem c_SortI (v : Nat) (zs : List Int) (h : zs.length ≤ 1048576) : FnM Tryz.prog 97 [.row v ⟨1, false⟩ true (zs.map eI)] [.ref 1000000000 v 0 zs.length] (fun r io => r = .tup [] ∧ io = [.row v ⟨1, false⟩ true ((zs.mergeSort fun x y => decide (x ≤ y)).map eI)]) :=
  FnM.sortRow ⟨_, _, Tryz.func97, by rfl, rfl⟩ (fun zs => zs.mergeSort fun x y => decide (x ≤ y)) (fun zs => List.length_mergeSort zs)
    (fun blk cap zs w hH hb hs => AnyG.slices_Sort_int Tryz.laySort blk 0 cap zs w hH hb hs) (fun a w => AnyG.slices_Sort_int_none Tryz.laySort a 0 w) v zs h
theorem compact_len (zs : List Int) : (Lib.compact zs).length ≤ zs.length := by
  unfold Lib.compact Lib.compactUpTo
  rw [List.length_map]
  exact Nat.le_trans (List.length_filter_le _ _) (by simp)
theorem s_CompactX {d l ver n : Nat} {zs : List Int} {xt : List AV} {m : Mem} {k : AV → Mem → Prop} {q : Pack k} (hlk : lookB m l = some (.row ver ⟨1, false⟩ true (zs.map eI))) (hn : n = zs.length) (hz : zs.length ≤ 1048576)
    (hk : k (.ref l (ver + 1) 0 (Lib.compact zs).length) ((l, .row (ver + 1) ⟨1, false⟩ true ((Lib.compact zs ++ List.replicate (zs.length - (Lib.compact zs).length) 0).map eI)) :: m)) :
    sCallX Tryz.prog 98 d [.ref l ver 0 n] xt m k q :=
  sCallX_ints (Lib.compact zs).length ⟨_, _, Tryz.func98, by rfl, rfl⟩ hlk hn (ys := Lib.compact zs ++ List.replicate (zs.length - (Lib.compact zs).length) 0) (by have := compact_len zs; simp; omega) (compact_len zs) hz
    (fun blk cap w hH hc => AnyG.slices_Compact_int Tryz.layCompact blk 0 cap zs w hH (by omega) hc) (fun a w => AnyG.slices_Compact_int_empty Tryz.layCompact a 0 w) hk
end Go.Vc


/-
  Contracts of the laws' helpers for systems.
-/
set_option linter.unusedVariables false
set_option linter.unusedSimpArgs false
set_option linter.unnecessarySimpa false
namespace Go.Vc
open Go.Proofs
set_option maxRecDepth 100000
theorem c_szSystem (m : MkM) (l : List (List Int)) (n : Int) (h : l.length ≤ 9223372036854775807) (h2 : ∀ x ∈ l, x.length ≤ 9223372036854775807) (hn : 0 ≤ n ∧ n ≤ 1048576) :
    Fn Tryz.prog 6 [eSy m l, eI n] true (· = eI (if n < l.length + tot l then -1 else n - (l.length + tot l))) := by
  refine Fn.of_vcN 12 [.tmp 4] Tryz.func6 rfl rfl rfl rfl rfl (of_decide_eq_true rfl) ?_
  simp -dsimp -implicitDefEqProofs only [go_sem, ↓reduceIte, Nat.reduceEqDiff, Nat.reduceLT, Nat.reduceAdd, Nat.reduceMul, Nat.reduceLeDiff, Nat.le_refl, Int.natCast_zero, Int.toNat_natCast, Int.reduceToNat]
  refine sCallT_one (c_szInt64SS l n h h2 hn) ?_
  by_cases hlt : n < l.length + tot l
  · rw [if_pos hlt]
    simp -dsimp -implicitDefEqProofs only [go_sem, ↓reduceIte, Nat.reduceEqDiff, Nat.reduceLT, Nat.reduceAdd, Nat.reduceMul, Nat.reduceLeDiff, Nat.le_refl, Int.natCast_zero, Int.toNat_natCast, Int.reduceToNat]
    repeat' (refine Br.intro (fun _ => ?_) (fun _ => ?_) <;> try simp -dsimp -implicitDefEqProofs only [go_sem, ↓reduceIte, Nat.reduceEqDiff, Nat.reduceLT, Nat.reduceAdd, Nat.reduceMul, Nat.reduceLeDiff, Nat.le_refl, Int.natCast_zero, Int.toNat_natCast, Int.reduceToNat, *])
    all_goals simp_all
  · rw [if_neg hlt]
    simp -dsimp -implicitDefEqProofs only [go_sem, ↓reduceIte, Nat.reduceEqDiff, Nat.reduceLT, Nat.reduceAdd, Nat.reduceMul, Nat.reduceLeDiff, Nat.le_refl, Int.natCast_zero, Int.toNat_natCast, Int.reduceToNat]
    repeat' (refine Br.intro (fun _ => ?_) (fun _ => ?_) <;> try simp -dsimp -implicitDefEqProofs only [go_sem, ↓reduceIte, Nat.reduceEqDiff, Nat.reduceLT, Nat.reduceAdd, Nat.reduceMul, Nat.reduceLeDiff, Nat.le_refl, Int.natCast_zero, Int.toNat_natCast, Int.reduceToNat, *])
    all_goals (simp_all; try omega)
theorem c_toSystem (m : MkM) (l : List (List Int)) (h : l.length ≤ 1048576) (h2 : ∀ x ∈ l, x.length ≤ 1048576) : Fn Tryz.prog 10 [eSy m l] true (· = eSy m l) := by
  refine Fn.of_vcN 13 [.cell 2 36] Tryz.func10 rfl rfl rfl rfl rfl (of_decide_eq_true rfl) ?_
  simp -dsimp -implicitDefEqProofs only [go_sem, ↓reduceIte, Nat.reduceEqDiff, Nat.reduceLT, Nat.reduceAdd, Nat.reduceMul, Nat.reduceLeDiff, Nat.le_refl, Int.natCast_zero, Int.toNat_natCast, Int.reduceToNat]
  repeat' first
    | (with_reducible refine And.intro ?_ ?_)
    | (refine sCallT_one (c_toMaker m) ?_; try simp -dsimp -implicitDefEqProofs only [go_sem, ↓reduceIte, Nat.reduceEqDiff, Nat.reduceLT, Nat.reduceAdd, Nat.reduceMul, Nat.reduceLeDiff, Nat.le_refl, Int.natCast_zero, Int.toNat_natCast, Int.reduceToNat, *])
    | (refine sCallT_one (c_toInt64SS l h h2) ?_; try simp -dsimp -implicitDefEqProofs only [go_sem, ↓reduceIte, Nat.reduceEqDiff, Nat.reduceLT, Nat.reduceAdd, Nat.reduceMul, Nat.reduceLeDiff, Nat.le_refl, Int.natCast_zero, Int.toNat_natCast, Int.reduceToNat, *])
  all_goals first | omega | decide | (simp; done) | trace_state
theorem c_eqSystem (m m' : MkM) (l l' : List (List Int)) (h : l.length ≤ 9223372036854775807) (h2 : ∀ x ∈ l, x.length ≤ 9223372036854775807) : Fn Tryz.prog 15 [eSy m l, eSy m' l'] true (· = eB (decide (m = m' ∧ l = l'))) := by
  refine Fn.of_vcN 17 [.tmp 4] Tryz.func15 rfl rfl rfl rfl rfl (of_decide_eq_true rfl) ?_
  simp -dsimp -implicitDefEqProofs only [go_sem, ↓reduceIte, Nat.reduceEqDiff, Nat.reduceLT, Nat.reduceAdd, Nat.reduceMul, Nat.reduceLeDiff, Nat.le_refl, Int.natCast_zero, Int.toNat_natCast, Int.reduceToNat]
  repeat' first
    | (refine Br.intro (fun _ => ?_) (fun _ => ?_) <;> try simp -dsimp -implicitDefEqProofs only [go_sem, ↓reduceIte, Nat.reduceEqDiff, Nat.reduceLT, Nat.reduceAdd, Nat.reduceMul, Nat.reduceLeDiff, Nat.le_refl, Int.natCast_zero, Int.toNat_natCast, Int.reduceToNat, *])
    | (refine sCallT_one (c_eqMaker m m') ?_; try simp -dsimp -implicitDefEqProofs only [go_sem, ↓reduceIte, Nat.reduceEqDiff, Nat.reduceLT, Nat.reduceAdd, Nat.reduceMul, Nat.reduceLeDiff, Nat.le_refl, Int.natCast_zero, Int.toNat_natCast, Int.reduceToNat, *])
    | (refine sCallT_one (c_eqInt64SS l l' h h2) ?_; try simp -dsimp -implicitDefEqProofs only [go_sem, ↓reduceIte, Nat.reduceEqDiff, Nat.reduceLT, Nat.reduceAdd, Nat.reduceMul, Nat.reduceLeDiff, Nat.le_refl, Int.natCast_zero, Int.toNat_natCast, Int.reduceToNat, *])
  all_goals simp_all
theorem c_markSystem (m : MkM) (l : List (List Int)) (k : Int) (v : Nat) (hk : 0 ≤ k ∧ k ≤ 100000000000) (h : l.length ≤ 1000000000) (h2 : (l.map List.length).sum ≤ 1000000000) :
    FnM Tryz.prog 18 [.row v ⟨1, false⟩ true (l.map eIs)] [.agg [eI m.chambers, eI m.depths, eI m.step, eI m.same, eI m.least, .ref 1000000000 v 0 l.length], eI k]
      (fun x io => x = eI (k + (l.map List.length).sum) ∧ io = [.row v ⟨1, false⟩ true ((markLL k (l.map List.length)).map eIs)]) := by
  refine FnM.of_vcN 10 [.tmp 4] Tryz.func18 rfl rfl rfl rfl rfl (of_decide_eq_true rfl) ?_
  simp -dsimp -implicitDefEqProofs only [go_sem, ↓reduceIte, Nat.reduceEqDiff, Nat.reduceLT, Nat.reduceAdd, Nat.reduceMul, Nat.reduceLeDiff, Nat.le_refl, Int.natCast_zero, Int.toNat_natCast, Int.reduceToNat]
  repeat' first
    | (with_reducible refine And.intro ?_ ?_)
    | (refine sCallT_io [1000000000] ?_; simp -dsimp -implicitDefEqProofs only [go_sem, ↓reduceIte, Nat.reduceEqDiff, Nat.reduceLT, Nat.reduceAdd, Nat.reduceMul, Nat.reduceLeDiff, Nat.le_refl, Int.natCast_zero, Int.toNat_natCast, Int.reduceToNat]; refine sCallM_one (c_markInt64SS l k v hk h h2) ?_; try simp -dsimp -implicitDefEqProofs only [go_sem, ↓reduceIte, Nat.reduceEqDiff, Nat.reduceLT, Nat.reduceAdd, Nat.reduceMul, Nat.reduceLeDiff, Nat.le_refl, Int.natCast_zero, Int.toNat_natCast, Int.reduceToNat, *])
  all_goals first | (simp; done) | trace_state
end Go.Vc


