/-
  The abstract values of the layer Vc, and how concrete values read as them. No program in sight.
-/
import Derived.WalkKit
set_option linter.unusedVariables false
set_option linter.unusedSimpArgs false
set_option linter.unnecessarySimpa false
namespace Go.Vc

/-- The shape of a row's elements: so many cells each; 'ag': a struct (its value is an aggregate). -/
structure Sh where
  sz : Nat
  ag : Bool

inductive AV where
  | undef
  | val (v : Value)
  | e0
  | arr (sh : Sh) (xs : List AV)
  | agg (xs : List AV)
  | tup (xs : List AV)
  | ref (l ver i n : Nat)
  | ptr (l ver i j : Nat)
  | eptr (sh : Sh) (xs : List AV) (i j : Nat)
  | clo (f : FuncId) (caps : List AV)

def leaf : AV → Prop
  | .undef | .agg _ | .tup _ => False
  | _ => True

def fits (sh : Sh) : AV → Prop
  | .agg ys => sh.ag = true ∧ ys.length = sh.sz
  | .undef | .tup _ => False
  | _ => sh.ag = false ∧ sh.sz = 1

def elemV (cs : List Value) (o : Nat) (sh : Sh) : Value :=
  if sh.ag then .agg ((cs.drop o).take sh.sz).toArray else cs.getD o Go.undef

/-- A value reads as an abstract value in a world, over blocks of S, which never change. -/
inductive Rd (w : World) (S : Nat → Prop) : AV → Value → Prop
  | undef (v : Value) : Rd w S .undef v
  | val (v : Value) (h : v.oneCell' = true) : Rd w S (.val v) v
  | e0 (a : Option Addr) : Rd w S .e0 (.slice a 0 0)
  | nil (sh : Sh) (a : Option Addr) : Rd w S (.arr sh []) (.slice a 0 0)
  | arr (sh : Sh) (xs : List AV) (b off cap : Nat) (cs : Array Value) (e : TypeId) (fr : Nat × Nat) (hS : S b) (hb : w.heap[b]? = some (.cells cs e fr)) (hcap : xs.length ≤ cap)
      (hl : off + xs.length * sh.sz ≤ cs.size) (hf : ∀ i (h : i < xs.length), fits sh xs[i])
      (hv : ∀ i (h : i < xs.length), Rd w S xs[i] (elemV cs.toList (off + i * sh.sz) sh)) : Rd w S (.arr sh xs) (.slice (some ⟨b, off, none⟩) xs.length cap)
  | agg (xs : List AV) (cs : Array Value) (hl : cs.size = xs.length) (hf : ∀ i (h : i < xs.length), leaf xs[i])
      (hv : ∀ i (h : i < xs.length), Rd w S xs[i] (cs.toList.getD i Go.undef)) : Rd w S (.agg xs) (.agg cs)
  | tup (xs : List AV) (cs : Array Value) (hl : cs.size = xs.length)
      (hv : ∀ i (h : i < xs.length), Rd w S xs[i] (cs.toList.getD i Go.undef)) : Rd w S (.tup xs) (.tuple cs)
  | eptr (sh : Sh) (xs : List AV) (i j b off : Nat) (cs : Array Value) (e : TypeId) (fr : Nat × Nat) (hS : S b) (hb : w.heap[b]? = some (.cells cs e fr))
      (hl : off + xs.length * sh.sz ≤ cs.size) (hf : ∀ i (h : i < xs.length), fits sh xs[i])
      (hv : ∀ i (h : i < xs.length), Rd w S xs[i] (elemV cs.toList (off + i * sh.sz) sh)) : Rd w S (.eptr sh xs i j) (.pointer (some ⟨b, off + i * sh.sz + j, none⟩))
  | clo (f : FuncId) (xs : List AV) (cs : Array Value) (hl : cs.size = xs.length)
      (hv : ∀ i (h : i < xs.length), Rd w S xs[i] (cs.toList.getD i Go.undef)) : Rd w S (.clo f xs) (.func (.func f) #[] cs)

theorem Rd.mono {w w' : World} {S S' : Nat → Prop} (hw : ∀ b, S b → w'.heap[b]? = w.heap[b]?) (hS : ∀ b, S b → S' b) {x : AV} {v : Value} (h : Rd w S x v) : Rd w' S' x v := by
  induction h with
  | undef v => exact .undef v
  | val v h => exact .val v h
  | e0 a => exact .e0 a
  | nil sh a => exact .nil sh a
  | arr sh xs b off cap cs e fr hb hh hcap hl hf _ ih => exact .arr sh xs b off cap cs e fr (hS b hb) ((hw b hb).trans hh) hcap hl hf ih
  | agg xs cs hl hf _ ih => exact .agg xs cs hl hf ih
  | tup xs cs hl _ ih => exact .tup xs cs hl ih
  | eptr sh xs i j b off cs e fr hb hh hl hf _ ih => exact .eptr sh xs i j b off cs e fr (hS b hb) ((hw b hb).trans hh) hl hf ih
  | clo f xs cs hl _ ih => exact .clo f xs cs hl ih

theorem Rd.leaf_oneCell {w : World} {S : Nat → Prop} {x : AV} {v : Value} (h : Rd w S x v) (hx : leaf x) : v.oneCell' = true := by
  cases h <;> first | rfl | assumption | exact hx.elim

/-- A tree whose slices the value owns: each has a block of its own (the list), written by nobody else. Parts that read over S may hang in it. -/
inductive Own (w : World) (S : Nat → Prop) : AV → Value → List Nat → Prop
  | rd (x : AV) (v : Value) (h : Rd w S x v) : Own w S x v []
  | arr (sh : Sh) (xs : List AV) (b cap : Nat) (cs : Array Value) (e : TypeId) (fss : List (List Nat)) (hb : w.heap[b]? = some (.cells cs e (0, 0)))
      (hc : cs.size = cap * sh.sz) (hl : xs.length ≤ cap) (hm : cap ≤ maxLen) (hf : ∀ i (h : i < xs.length), fits sh xs[i]) (hs : fss.length = xs.length)
      (hv : ∀ i (h : i < xs.length), Own w S xs[i] (elemV cs.toList (i * sh.sz) sh) (fss.getD i [])) : Own w S (.arr sh xs) (.slice (some ⟨b, 0, none⟩) xs.length cap) (b :: fss.flatten)
  | agg (xs : List AV) (cs : Array Value) (fss : List (List Nat)) (hl : cs.size = xs.length) (hf : ∀ i (h : i < xs.length), leaf xs[i]) (hs : fss.length = xs.length)
      (hv : ∀ i (h : i < xs.length), Own w S xs[i] (cs.toList.getD i Go.undef) (fss.getD i [])) : Own w S (.agg xs) (.agg cs) fss.flatten
  | tup (xs : List AV) (cs : Array Value) (fss : List (List Nat)) (hl : cs.size = xs.length) (hs : fss.length = xs.length)
      (hv : ∀ i (h : i < xs.length), Own w S xs[i] (cs.toList.getD i Go.undef) (fss.getD i [])) : Own w S (.tup xs) (.tuple cs) fss.flatten

theorem mem_flatten_getD {fss : List (List Nat)} {i b : Nat} (h : i < fss.length) (hb : b ∈ fss.getD i []) : b ∈ fss.flatten := by
  rw [List.mem_flatten]
  refine ⟨fss.getD i [], ?_, hb⟩
  rw [List.getD_eq_getElem?_getD, List.getElem?_eq_getElem h]
  exact List.getElem_mem h

theorem Own.mono {w w' : World} {S S' : Nat → Prop} (hw : ∀ b, S b → w'.heap[b]? = w.heap[b]?) (hS : ∀ b, S b → S' b) {x : AV} {v : Value} {fs : List Nat} (h : Own w S x v fs)
    (hfs : ∀ b, b ∈ fs → w'.heap[b]? = w.heap[b]?) : Own w' S' x v fs := by
  induction h with
  | rd x v h => exact .rd x v (h.mono hw hS)
  | arr sh xs b cap cs e fss hb hc hl hm hf hs _ ih =>
    exact .arr sh xs b cap cs e fss ((hfs b (List.mem_cons_self ..)).trans hb) hc hl hm hf hs
      fun i h => ih i h fun b' hb' => hfs b' (List.mem_cons_of_mem _ (mem_flatten_getD (hs ▸ h) hb'))
  | agg xs cs fss hl hf hs _ ih => exact .agg xs cs fss hl hf hs fun i h => ih i h fun b' hb' => hfs b' (mem_flatten_getD (hs ▸ h) hb')
  | tup xs cs fss hl hs _ ih => exact .tup xs cs fss hl hs fun i h => ih i h fun b' hb' => hfs b' (mem_flatten_getD (hs ▸ h) hb')

/-- What is owned can be read, once its blocks are held for good. -/
theorem Own.rd_of {w : World} {S S' : Nat → Prop} (hS : ∀ b, S b → S' b) {x : AV} {v : Value} {fs : List Nat} (h : Own w S x v fs) (hfs : ∀ b, b ∈ fs → S' b) : Rd w S' x v := by
  induction h with
  | rd x v h => exact h.mono (fun _ _ => rfl) hS
  | arr sh xs b cap cs e fss hb hc hl hm hf hs _ ih =>
    refine .arr sh xs b 0 cap cs e (0, 0) (hfs b (List.mem_cons_self ..)) hb hl ?_ hf ?_
    · rw [hc, Nat.zero_add]; exact Nat.mul_le_mul_right _ hl
    · intro i h
      rw [Nat.zero_add]
      exact ih i h fun b' hb' => hfs b' (List.mem_cons_of_mem _ (mem_flatten_getD (hs ▸ h) hb'))
  | agg xs cs fss hl hf hs _ ih => exact .agg xs cs hl hf fun i h => ih i h fun b' hb' => hfs b' (mem_flatten_getD (hs ▸ h) hb')
  | tup xs cs fss hl hs _ ih => exact .tup xs cs hl fun i h => ih i h fun b' hb' => hfs b' (mem_flatten_getD (hs ▸ h) hb')

theorem Own.leaf_oneCell {w : World} {S : Nat → Prop} {x : AV} {v : Value} {fs : List Nat} (h : Own w S x v fs) (hx : leaf x) : v.oneCell' = true := by
  cases h with
  | rd _ _ h => exact h.leaf_oneCell hx
  | arr => rfl
  | agg => exact hx.elim
  | tup => exact hx.elim

theorem Own.lt {w : World} {S : Nat → Prop} {x : AV} {v : Value} {fs : List Nat} (h : Own w S x v fs) : ∀ b, b ∈ fs → b < w.heap.size := by
  have key : ∀ (fss : List (List Nat)) (n : Nat), fss.length = n → (∀ i, i < n → ∀ b, b ∈ fss.getD i [] → b < w.heap.size) → ∀ b, b ∈ fss.flatten → b < w.heap.size := by
    intro fss n hn hh b hb
    obtain ⟨l, hl, hbl⟩ := List.mem_flatten.1 hb
    obtain ⟨i, hi, rfl⟩ := List.getElem_of_mem hl
    refine hh i (hn ▸ hi) b ?_
    rw [List.getD_eq_getElem?_getD, List.getElem?_eq_getElem hi]; exact hbl
  induction h with
  | rd x v h => intro b hb; cases hb
  | arr sh xs b cap cs e fss hb hc hl hm hf hs _ ih =>
    intro b' hb'
    rcases List.mem_cons.1 hb' with rfl | hb'
    · exact (Array.getElem?_eq_some_iff.1 hb).1
    · exact key fss xs.length hs ih b' hb'
  | agg xs cs fss hl hf hs _ ih => exact key fss xs.length hs ih
  | tup xs cs fss hl hs _ ih => exact key fss xs.length hs ih

/-- What lies outside of memory is as it was. -/
structure SameOut (w w' : World) : Prop where
  os : w'.os = w.os
  tape : w'.tape = w.tape
  output : w'.output = w.output
theorem SameOut.refl (w : World) : SameOut w w := ⟨rfl, rfl, rfl⟩
theorem SameOut.trans {a b c : World} (h : SameOut a b) (h' : SameOut b c) : SameOut a c := ⟨h'.os.trans h.os, h'.tape.trans h.tape, h'.output.trans h.output⟩

/-- Blocks keep their sizes. -/
def Szs (w w' : World) : Prop := ∀ (b : Nat) (cs : Array Value) (e : TypeId), w.heap[b]? = some (.cells cs e (0, 0)) → ∃ (cs' : Array Value) (e' : TypeId), w'.heap[b]? = some (.cells cs' e' (0, 0)) ∧ cs'.size = cs.size
theorem Szs.refl (w : World) : Szs w w := fun _ cs e h => ⟨cs, e, h, rfl⟩
theorem Szs.trans {a b c : World} (h : Szs a b) (h' : Szs b c) : Szs a c := fun x cs e hx => by
  obtain ⟨cs', e', h1, h2⟩ := h x cs e hx
  obtain ⟨cs2, e2, h3, h4⟩ := h' x cs' e' h1
  exact ⟨cs2, e2, h3, h4.trans h2⟩
theorem Szs.of_same {w w' : World} (h : ∀ b : Nat, b < w.heap.size → w'.heap[b]? = w.heap[b]?) : Szs w w' := fun b cs e hb =>
  ⟨cs, e, (h b (Array.getElem?_eq_some_iff.1 hb).1).trans hb, rfl⟩

/-- Nothing that was there has changed. -/
structure Grown (w w' : World) : Prop where
  size : w.heap.size ≤ w'.heap.size
  same : ∀ b, b < w.heap.size → w'.heap[b]? = w.heap[b]?
  out : SameOut w w'

theorem Grown.refl (w : World) : Grown w w := ⟨Nat.le_refl _, fun _ _ => rfl, SameOut.refl w⟩
theorem Grown.trans {a b c : World} (h : Grown a b) (h' : Grown b c) : Grown a c :=
  ⟨Nat.le_trans h.size h'.size, fun x hx => (h'.same x (Nat.lt_of_lt_of_le hx h.size)).trans (h.same x hx), h.out.trans h'.out⟩

def kInt (cs : Array Value) : Prop := ∃ m, cs = #[.int .i64 m]
def kTab (cs : Array Value) : Prop := cs = ((List.range 20).map fun i => Value.int .u64 ((10 ^ i : Nat) : Int)).toArray
def kIfc (cs : Array Value) : Prop := ∃ t p, cs = #[.iface t p]
/-- The package-level variables that the library's functions read: their blocks, and what they hold. -/
def kons : List (Nat × (Array Value → Prop)) := [(0, kInt), (3, kTab)]
def Kon (w : World) (S : Nat → Prop) : Prop := ∀ g p, (g, p) ∈ kons → S g ∧ ∃ cs e fr, w.heap[g]? = some (.cells cs e fr) ∧ p cs
theorem Kon.mono {w w' : World} {S S' : Nat → Prop} (h : Kon w S) (hw : ∀ b, S b → w'.heap[b]? = w.heap[b]?) (hS : ∀ b, S b → S' b) : Kon w' S' := fun g p hg => by
  obtain ⟨h1, cs, e, fr, h2, h3⟩ := h g p hg
  exact ⟨hS g h1, cs, e, fr, (hw g h1).trans h2, h3⟩
theorem Kon.of_nil (hk : kons = []) (w : World) (S : Nat → Prop) : Kon w S := fun g p hg => by rw [hk] at hg; cases hg

end Go.Vc
