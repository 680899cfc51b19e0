/-
  From what a call is handed, read as data, to abstract values.
-/
import Derived.Test.YtlelhmbhhnokoaaDoorVcAuto
import Derived.ProofKit
import Derived.OpenShut
import Derived.ChangeOld
import Derived.Below
import Derived.Carry
import Derived.Deep.Slices
set_option linter.unusedVariables false
set_option linter.unusedSimpArgs false
set_option linter.unnecessarySimpa false
namespace Go.Vc
open Go.RowKit (Below)
open Go.ChangeShapes Go.WideShapes Go.ChangeAt Go.Deep

theorem Grown.below {w w' : World} (h : Grown w w') : Below w.heap.size w w' := ⟨h.out.os, h.out.tape, h.out.output, h.size, h.same⟩

def CellsRd (w : World) (xs : List AV) (cs : List Value) : Prop := cs.length = xs.length ∧ ∀ i (h : i < xs.length), leaf xs[i] ∧ Rd w (Now w) xs[i] (cs.getD i Go.undef)

/-- What reads as data at type t reads as 'f a', for some a. -/
def Dec (P : Program) (t : TypeId) {α : Type} (ok : α → Prop) (f : α → List AV) : Prop :=
  ∀ (H : Type) (enc : TypeId × Value → H) (w : World) (base : Nat) (held : Bool) (fuel : Nat) (cs : List Value) (x : DataW H × List MemPlace),
    DataW.trod enc P w base (fun _ => true) held fuel t cs = some x → ∃ a, ok a ∧ CellsRd w (f a) cs

theorem CellsRd.one {w : World} {x : AV} {v : Value} (hl : leaf x) (h : Rd w (Now w) x v) : CellsRd w [x] [v] := ⟨rfl, fun i hi => by
  have : i = 0 := by simpa using hi
  subst this; exact ⟨hl, h⟩⟩

theorem Dec.int {P : Program} {t : TypeId} {k : IntKind} (ht : P.underlying t = some (.int k)) : Dec P t (fun n : Int => (Lit.int k n).wf = true) (fun n => [.val (.int k n)]) := fun H enc w base held fuel cs x h => by
  obtain ⟨n, rfl, _, hw⟩ := DataW.trod_int ht h
  exact ⟨n, hw, .one trivial (.val _ rfl)⟩
theorem Dec.i64 {P : Program} {t : TypeId} (ht : P.underlying t = some (.int .i64)) : Dec P t I64 (fun n : Int => [.val (.int .i64 n)]) := fun H enc w base held fuel cs x h => by
  obtain ⟨n, rfl, _, hw⟩ := DataW.trod_int ht h
  exact ⟨n, bounds_i64 hw, .one trivial (.val _ rfl)⟩
theorem Dec.u8 {P : Program} {t : TypeId} (ht : P.underlying t = some (.int .u8)) : Dec P t (fun _ => True) (fun n : UInt8 => [.val (.int .u8 n.toNat)]) := fun H enc w base held fuel cs x h => by
  obtain ⟨n, rfl, _, hw⟩ := DataW.trod_int ht h
  have hb := bounds_u8 hw
  refine ⟨UInt8.ofNat n.toNat, trivial, .one trivial ?_⟩
  have : ((UInt8.ofNat n.toNat).toNat : Int) = n := by simp; omega
  rw [this]; exact .val _ rfl
theorem Dec.bool {P : Program} {t : TypeId} (ht : P.underlying t = some .bool) : Dec P t (fun _ => True) (fun b : Bool => [.val (.bool b)]) := fun H enc w base held fuel cs x h => by
  obtain ⟨b, rfl, _⟩ := DataW.trod_bool ht h
  exact ⟨b, trivial, .one trivial (.val _ rfl)⟩
theorem Dec.string {P : Program} {t : TypeId} (ht : P.underlying t = some .string) : Dec P t (fun s : ByteArray => s.size ≤ maxLen) (fun s => [.val (.string s)]) := fun H enc w base held fuel cs x h => by
  obtain ⟨s, rfl, _, hs⟩ := DataW.trod_string ht h
  exact ⟨s, hs, .one trivial (.val _ rfl)⟩

theorem Dec.map {P : Program} {t : TypeId} {α β : Type} {ok : α → Prop} {f : α → List AV} {ok' : β → Prop} {f' : β → List AV} (h : Dec P t ok f) (hm : ∀ a, ok a → ∃ b, ok' b ∧ f' b = f a) : Dec P t ok' f' := fun H enc w base held fuel cs x hx => by
  obtain ⟨a, h1, h2⟩ := h H enc w base held fuel cs x hx
  obtain ⟨b, h3, h4⟩ := hm a h1
  exact ⟨b, h3, by rw [h4]; exact h2⟩

theorem list_of {α : Type} (g : Nat → Option α) : ∀ (len : Nat), (∀ i, i < len → ∃ b, g i = some b) → ∃ xs : List α, xs.length = len ∧ ∀ i (hi : i < xs.length), g i = some xs[i]
  | 0, _ => ⟨[], rfl, fun i hi => absurd hi (Nat.not_lt_zero _)⟩
  | k + 1, hg => by
    obtain ⟨xs, h1, h2⟩ := list_of g k fun i hi => hg i (by omega)
    obtain ⟨b, hb⟩ := hg k (by omega)
    refine ⟨xs ++ [b], by simp [h1], fun i hi => ?_⟩
    by_cases hik : i < xs.length
    · rw [List.getElem_append_left hik]; exact h2 i hik
    · have : i = k := by simp at hi; omega
      subst this
      rw [List.getElem_append_right (by omega)]; simp [h1, hb]

theorem add_block (a : Addr) (k : Nat) : (a.add k).block = a.block := by unfold Addr.add; split <;> rfl
theorem add_off (a : Addr) (k : Nat) : (a.add k).off = a.off + k := by
  unfold Addr.add; split
  · rename_i h; rw [h]; rfl
  · rfl

theorem cell_out {w : World} {a : Addr} {v : Value} (h : w.cell? a = some v) : ∃ cs e fr, w.heap[a.block]? = some (.cells cs e fr) ∧ cs[a.off]? = some v := by
  unfold World.cell? at h
  split at h
  · split at h
    · cases h
    · exact ⟨_, _, _, ‹_›, h⟩
  · cases h

/-- an element of so many cells -/
def elOf (ag : Bool) (xs : List AV) : AV := if ag then .agg xs else xs.getD 0 .undef

theorem Dec.slice {P : Program} {t e : TypeId} {α : Type} {ok : α → Prop} {f : α → List AV} (ag : Bool) (n : Nat) (ht : P.underlying t = some (.slice e)) (hn : P.cellsOf e = n) (h0 : 0 < n) (hag : ag = false → n = 1)
    (hlen : ∀ a, (f a).length = n) (hd : Dec P e ok f) : Dec P t (fun xs : List α => xs.length ≤ maxLen ∧ ∀ a ∈ xs, ok a) (fun xs => [.arr ⟨n, ag⟩ (xs.map fun a => elOf ag (f a))]) := fun H enc w base held fuel cs x h => by
  rcases open_slice ht h with ⟨rfl, _⟩ | ⟨a, len, cap, m, n', D, Pl, rfl, hb, hl, hm, hmm, _, hel⟩
  · exact ⟨[], ⟨Nat.zero_le _, by simp⟩, .one trivial (.nil _ _)⟩
  · simp only [if_true] at hmm
    rw [hn, hmm] at hel
    clear hmm
    by_cases hc : cap = 0
    · subst hc
      have : len = 0 := by omega
      subst this
      exact ⟨[], ⟨Nat.zero_le _, by simp⟩, .one trivial (.nil _ _)⟩
    · -- the block
      have cellAt : ∀ i, i < cap → ∀ j, j < n → ∃ v, w.cell? (a.add (i * n + j)) = some v := by
        intro i hi j hj
        obtain ⟨cs', h1, _⟩ := hel i hi
        obtain ⟨_, h2, h3⟩ := World.cells?_some h1
        have := h3 j hj
        rw [add_add] at this
        exact ⟨cs'[j]'(by omega), by rw [this]; exact List.getElem?_eq_getElem (by omega)⟩
      obtain ⟨v00, h00⟩ := cellAt 0 (by omega) 0 h0
      have hsp : a.spot = none := by simpa [Addr.add] using World.cell?_spot h00
      obtain ⟨bcs, be, bfr, hheap, hoff0⟩ := cell_out h00
      have hheap : w.heap[a.block]? = some (.cells bcs be bfr) := by simpa [add_block] using hheap
      have hoff0 : bcs[a.off]? = some v00 := by simpa [add_off] using hoff0
      have cells : ∀ i, i < cap → ∀ j, j < n → ∀ v, w.cell? (a.add (i * n + j)) = some v → bcs[a.off + (i * n + j)]? = some v := by
        intro i hi j hj v hv
        obtain ⟨cs2, e2, fr2, g1, g2⟩ := cell_out hv
        have g1 : w.heap[a.block]? = some (.cells cs2 e2 fr2) := by simpa [add_block] using g1
        rw [hheap] at g1; cases g1
        simpa [add_off] using g2
      have size : ∀ i, i < cap → a.off + (i + 1) * n ≤ bcs.size := by
        intro i hi
        obtain ⟨v, hv⟩ := cellAt i hi (n - 1) (by omega)
        have := cells i hi (n - 1) (by omega) v hv
        have := (Array.getElem?_eq_some_iff.1 this).1
        rw [Nat.add_mul]; omega
      obtain ⟨g, hg⟩ : ∃ g : Nat → Option α, ∀ i, i < len → ∃ b, g i = some b ∧ ok b ∧ ∃ cs', w.cells? base (a.add (i * n)) n = some cs' ∧ CellsRd w (f b) cs' := by
        refine choose_lt (p := fun i (o : Option α) => ∃ b, o = some b ∧ ok b ∧ ∃ cs', w.cells? base (a.add (i * n)) n = some cs' ∧ CellsRd w (f b) cs') fun i hi => ?_
        obtain ⟨cs', h1, h2⟩ := hel i (by omega)
        obtain ⟨b, h3, h4⟩ := hd H enc w base held n' cs' _ h2
        exact ⟨some b, b, rfl, h3, cs', h1, h4⟩
      have hxs : ∃ xs : List α, xs.length = len ∧ ∀ i (hi : i < xs.length), g i = some xs[i] := by
        exact list_of g len fun i hi => by obtain ⟨b, hb, _⟩ := hg i hi; exact ⟨b, hb⟩
      obtain ⟨xs, hxl, hxs⟩ := hxs
      have hel2 : ∀ i (hi : i < xs.length), ok xs[i] ∧ ∃ cs', w.cells? base (a.add (i * n)) n = some cs' ∧ CellsRd w (f xs[i]) cs' := by
        intro i hi
        obtain ⟨b, h1, h2, h3⟩ := hg i (by omega)
        rw [hxs i hi] at h1; cases h1
        exact ⟨h2, h3⟩
      refine ⟨xs, ⟨by omega, fun b hb => ?_⟩, .one trivial ?_⟩
      · obtain ⟨i, hi, rfl⟩ := List.getElem_of_mem hb
        exact (hel2 i hi).1
      · have ea : a = ⟨a.block, a.off, none⟩ := by cases a; simp at hsp; subst hsp; rfl
        have hlen2 : (xs.map fun b => elOf ag (f b)).length = len := by simp [hxl]
        rw [ea, ← hlen2]
        refine .arr ⟨n, ag⟩ _ a.block a.off cap bcs be bfr (Array.getElem?_eq_some_iff.1 hheap).1 hheap (by omega) ?_ ?_ ?_
        · rw [hlen2]
          show a.off + len * n ≤ bcs.size
          by_cases h0l : len = 0
          · subst h0l
            have := size 0 (by omega)
            omega
          · have := size (len - 1) (by omega)
            rwa [show len - 1 + 1 = len by omega] at this
        · intro i hi
          rw [List.getElem_map]
          cases ag with
          | true => exact ⟨rfl, hlen _⟩
          | false =>
            have hi' : i < xs.length := by simpa using hi
            obtain ⟨_, cs', _, h2⟩ := hel2 i hi'
            have h1 := hlen xs[i]
            have := (h2.2 0 (by omega)).1
            have e1 : elOf false (f xs[i]) = (f xs[i])[0]'(by omega) := by simp [elOf, List.getD_eq_getElem?_getD, List.getElem?_eq_getElem (show 0 < (f xs[i]).length by omega)]
            rw [e1]
            have hn1 := hag rfl
            unfold fits
            split <;> first | (rename_i hh; rw [hh] at this; exact this.elim) | exact ⟨rfl, hn1⟩
        · intro i hi
          have hi' : i < xs.length := by simpa using hi
          rw [List.getElem_map]
          obtain ⟨_, cs', h1, h2⟩ := hel2 i hi'
          obtain ⟨_, h3, h4⟩ := World.cells?_some h1
          have hcell : ∀ j, j < n → bcs[a.off + (i * n + j)]? = cs'[j]? := by
            intro j hj
            have := h4 j hj
            rw [add_add] at this
            rw [List.getElem?_eq_getElem (by omega)] at this ⊢
            exact cells i (by omega) j hj _ this
          have hsz := size i (by omega)
          cases ag with
          | true =>
            have e2 : elemV bcs.toList (a.off + i * n) ⟨n, true⟩ = .agg cs'.toArray := by
              simp only [elemV, if_true]
              congr 2
              apply List.ext_getElem?
              intro j
              by_cases hj : j < n
              · rw [List.getElem?_take, if_pos hj, List.getElem?_drop, ← hcell j hj]; simp [Nat.add_assoc]
              · rw [List.getElem?_take, if_neg hj, List.getElem?_eq_none (by omega)]
            show Rd w (Now w) (elOf true (f xs[i])) (elemV bcs.toList (a.off + i * n) ⟨n, true⟩)
            rw [e2]
            exact .agg _ _ (by simpa using h2.1) (fun j hj => (h2.2 j hj).1) (fun j hj => (h2.2 j hj).2)
          | false =>
            have hn1 := hag rfl
            subst hn1
            have hl1 := hlen xs[i]
            have e2 : elemV bcs.toList (a.off + i * 1) ⟨1, false⟩ = cs'.getD 0 Go.undef := by
              simp only [elemV, Bool.false_eq_true, if_false, List.getD_eq_getElem?_getD]
              have := hcell 0 (by omega)
              rw [Nat.add_zero] at this
              rw [← this]; simp
            show Rd w (Now w) (elOf false (f xs[i])) (elemV bcs.toList (a.off + i * 1) ⟨1, false⟩)
            rw [e2]
            have e1 : elOf false (f xs[i]) = (f xs[i])[0]'(by omega) := by simp [elOf, List.getD_eq_getElem?_getD, List.getElem?_eq_getElem (show 0 < (f xs[i]).length by omega)]
            rw [e1]
            exact (h2.2 0 (by omega)).2

/-- The fields of a struct, one behind the other. -/
inductive Flds (P : Program) : List Field → Nat → {α : Type} → (α → Prop) → (α → List AV) → Prop
  | nil (o : Nat) : Flds P [] o (fun _ : Unit => True) (fun _ => [])
  | cons {α β : Type} {f : Field} {r : List Field} {o n : Nat} {ok : α → Prop} {g : α → List AV} {ok' : β → Prop} {g' : β → List AV} (ho : f.offset = o) (hn : P.cellsOf f.type = n) (hl : ∀ a, (g a).length = n) (hd : Dec P f.type ok g) (hr : Flds P r (o + n) ok' g') :
      Flds P (f :: r) o (fun p : α × β => ok p.1 ∧ ok' p.2) (fun p => g p.1 ++ g' p.2)

theorem Flds.out {P : Program} {fs : List Field} {o : Nat} {α : Type} {ok : α → Prop} {g : α → List AV} (h : Flds P fs o ok g) {H : Type} {enc : TypeId × Value → H} {w : World} {base : Nat} {held : Bool} {fuel : Nat} {cs : List Value}
    (hx : ∀ f, f ∈ fs → ∃ x, DataW.trod enc P w base (fun _ => true) held fuel f.type ((cs.drop f.offset).take (P.cellsOf f.type)) = some x) : ∃ a, ok a ∧ CellsRd w (g a) ((cs.drop o).take (g a).length) := by
  induction h with
  | nil o => exact ⟨(), trivial, by simp, fun i hi => absurd hi (Nat.not_lt_zero _)⟩
  | @cons α β f r o n ok g ok' g' ho hn hl hd hr ih =>
    obtain ⟨x, h1⟩ := hx f (List.mem_cons_self ..)
    obtain ⟨a, h2, h3⟩ := hd H enc w base held fuel _ x h1
    obtain ⟨b, h4, h5⟩ := ih fun f hf => hx f (List.mem_cons_of_mem _ hf)
    rw [hn, ho] at h3
    have e : (cs.drop o).take (g a ++ g' b).length = (cs.drop o).take n ++ (cs.drop (o + n)).take (g' b).length := by
      rw [List.length_append, hl, List.take_add, List.drop_drop]
    refine ⟨(a, b), ⟨h2, h4⟩, ?_⟩
    show CellsRd w (g a ++ g' b) ((cs.drop o).take (g a ++ g' b).length)
    rw [e]
    have hla := h3.1
    refine ⟨by rw [List.length_append, List.length_append, hla, h5.1], fun i hi => ?_⟩
    by_cases hia : i < (g a).length
    · rw [List.getElem_append_left hia]
      have := h3.2 i hia
      refine ⟨this.1, ?_⟩
      rw [List.getD_eq_getElem?_getD, List.getElem?_append_left (by omega), ← List.getD_eq_getElem?_getD]
      exact this.2
    · have hi2 : i - (g a).length < (g' b).length := by simp at hi; omega
      rw [List.getElem_append_right (by omega)]
      have := h5.2 _ hi2
      refine ⟨this.1, ?_⟩
      rw [List.getD_eq_getElem?_getD, List.getElem?_append_right (by omega), hla, ← List.getD_eq_getElem?_getD]
      exact this.2

theorem Dec.struct {P : Program} {t : TypeId} {fs : List Field} {α : Type} {ok : α → Prop} {g : α → List AV} {n : Nat} (ht : P.underlying t = some (.struct ⟨fs⟩)) (hn : P.cellsOf t = n) (hf : Flds P fs 0 ok g) (hl : ∀ a, (g a).length = n) : Dec P t ok g := fun H enc w base held fuel cs x h => by
  obtain ⟨xs, n', rfl, _, h1, h2, h3⟩ := DataW.trod_struct ht h
  obtain ⟨a, h4, h5⟩ := hf.out (H := H) (enc := enc) (w := w) (base := base) (held := held) (fuel := n') (cs := cs) fun f hf => by
    obtain ⟨i, hi, rfl⟩ := List.getElem_of_mem hf
    have := h3 i fs[i] (by simp)
    have hxl : i < xs.length := by rw [h2]; simpa using hi
    rw [List.getElem?_eq_getElem hxl] at this
    exact ⟨_, this⟩
  refine ⟨a, h4, ?_⟩
  rw [List.drop_zero, List.take_of_length_le (by rw [h1, hn, hl]; exact Nat.le_refl _)] at h5
  exact h5

/-- An argument that reads as data. -/
theorem Dec.arg {P : Program} {t : TypeId} {α : Type} {ok : α → Prop} {f : α → List AV} (h : Dec P t ok f) (ag : Bool) (hf : ∀ a, if ag then True else (f a).length = 1) {H : Type} {enc : TypeId × Value → H} {w : World} {base : Nat} {held : Bool} {v : Value} {d : DataW H} {ps : List MemPlace}
    (ht : DataW.Trod enc P w base (fun _ => true) held t v d ps) (hv : if ag then ∃ cs, v = .agg cs else v.cells = #[v]) : ∃ a, ok a ∧ Rd w (Now w) (elOf ag (f a)) v := by
  obtain ⟨fuel, hx⟩ := ht
  obtain ⟨a, h1, h2, h3⟩ := h H enc w base held fuel _ _ hx
  refine ⟨a, h1, ?_⟩
  cases ag with
  | true =>
    obtain ⟨cs, rfl⟩ := hv
    have e : (Value.agg cs).cells = cs := rfl
    rw [e] at h2 h3
    exact .agg _ _ (by simpa using h2) (fun i hi => (h3 i hi).1) (fun i hi => (h3 i hi).2)
  | false =>
    have hl : (f a).length = 1 := by simpa using hf a
    have hv : v.cells = #[v] := hv
    rw [hv] at h3
    have := (h3 0 (by omega)).2
    have e1 : elOf false (f a) = (f a)[0]'(by omega) := by simp [elOf, List.getD_eq_getElem?_getD, List.getElem?_eq_getElem (show 0 < (f a).length by omega)]
    rw [e1]; exact this

/-- A law's contract, as the row's step wants it. -/
theorem Fn.law {P : Program} {f : FuncId} {args : List AV} {b : Bool} (h : Fn P f args true (· = .val (.bool b))) (W : World) (hkon : Kon W (Now W)) (vs : Array Value) (hs : vs.size = args.length)
    (hr : ∀ i (h : i < args.length), Rd W (Now W) args[i] (vs.toList.getD i Go.undef)) : Calls P f vs W fun e W' => e = .returned (.bool b) ∧ Below W.heap.size W W' := by
  refine (h.2 W (Now W) vs (fun _ hb => hb) hkon hs hr).mono fun e W' ⟨r, v, he, hx, hg, hres⟩ => ?_
  subst hx
  obtain ⟨fs, hown, _⟩ := hres
  have hv : v = .bool b := by
    cases hown with
    | rd _ _ h => cases h with | val _ _ => rfl
  subst hv
  exact ⟨he, hg.below⟩
end Go.Vc
