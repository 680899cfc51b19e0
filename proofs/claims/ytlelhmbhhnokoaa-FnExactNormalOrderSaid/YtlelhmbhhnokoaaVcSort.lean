/-
  A contract of the kit's that sorts a row of numbers: as the layer Vc's contract.
-/
import Derived.Test.YtlelhmbhhnokoaaVcRow
import Derived.Sort.Grow
set_option linter.unusedVariables false
set_option linter.unusedSimpArgs false
set_option linter.unnecessarySimpa false
namespace Go.Vc
open Go.Sort
theorem flatInts : ∀ zs : List Int, isFlatL (zs.map fun n => AV.val (.int .i64 n)) = true
  | [] => rfl
  | _ :: r => by rw [List.map_cons, isFlatL_cons, flatInts r]; rfl
theorem holds_rd {w : World} {b : Nat} {cs : Array Value} {e : TypeId} {zs : List Int} (hb : w.heap[b]? = some (.cells cs e (0, 0))) (hcap : zs.length ≤ cs.size)
    (hrd : ∀ i (h : i < (zs.map fun n => AV.val (.int .i64 n)).length), Rd w (fun _ => False) (zs.map fun n => AV.val (.int .i64 n))[i] (cs.toList.getD i Go.undef)) : Holds (Value.int .i64) w b 0 zs.toArray := by
  intro j hj
  have hj' : j < zs.length := by simpa using hj
  have h1 := hrd j (by simpa using hj')
  rw [List.getElem_map] at h1
  have h2 : cs.toList.getD j Go.undef = .int .i64 zs[j] := by generalize cs.toList.getD j Go.undef = u at h1; cases h1; rfl
  have h3 : j < cs.size := by omega
  have h5 : cs[j]? = some (.int .i64 zs[j]) := by
    rw [List.getD_eq_getElem?_getD, Array.getElem?_toList, Array.getElem?_eq_getElem h3] at h2
    rw [Array.getElem?_eq_getElem h3]
    exact congrArg some h2
  have h6 : zs.toArray[j]! = zs[j] := by rw [getElem!_pos zs.toArray j hj]; simp
  refine ⟨?_, ?_⟩
  · simp only [World.cell?, hb, Nat.zero_add, Option.isSome_none, Bool.false_eq_true, ↓reduceIte, h5, h6]
  · simp [World.frozen?, hb]
theorem put_facts {w : World} {b n : Nat} {cs : Array Value} {e : TypeId} {ys : List Int} {os : Array Obj} (hb : w.heap[b]? = some (.cells cs e (0, 0))) (hcs : ys.length ≤ cs.size) :
    ∃ cs' : Array Value, cs'.size = cs.size ∧ (∀ i (h : i < (ys.map fun n => AV.val (.int .i64 n)).length), Rd (grow (putRow (Value.int .i64) (Sort.ahead w n) b 0 ys.toArray) os) (fun _ => False) (ys.map fun n => AV.val (.int .i64 n))[i] (cs'.toList.getD i Go.undef)) ∧
      (grow (putRow (Value.int .i64) (Sort.ahead w n) b 0 ys.toArray) os).heap[b]? = some (.cells cs' e (0, 0)) ∧ (∀ c : Nat, c ≠ b → c < w.heap.size → (grow (putRow (Value.int .i64) (Sort.ahead w n) b 0 ys.toArray) os).heap[c]? = w.heap[c]?) ∧
      w.heap.size ≤ (grow (putRow (Value.int .i64) (Sort.ahead w n) b 0 ys.toArray) os).heap.size ∧ SameOut w (grow (putRow (Value.int .i64) (Sort.ahead w n) b 0 ys.toArray) os) := by
  have hbl : b < w.heap.size := (Array.getElem?_eq_some_iff.1 hb).1
  have hheap : ∀ c : Nat, c < w.heap.size → (grow (putRow (Value.int .i64) (Sort.ahead w n) b 0 ys.toArray) os).heap[c]? = if b = c then w.heap[c]?.map (onCells (putCells (Value.int .i64) 0 ys.toArray)) else w.heap[c]? := by
    intro c hc
    rw [heap_grow_old _ _ (by simpa using hc)]
    simp only [putRow, mapBlock, Sort.heap_ahead, Array.getElem?_modify]
  refine ⟨putCells (Value.int .i64) 0 ys.toArray cs, by simp [putCells], ?_, ?_, ?_, ?_, ⟨rfl, rfl, rfl⟩⟩
  · intro i hi
    have hi' : i < ys.length := by simpa using hi
    have hi2 : i < cs.size := by omega
    have e1 : (putCells (Value.int .i64) 0 ys.toArray cs).toList.getD i Go.undef = .int .i64 ys[i] := by
      rw [List.getD_eq_getElem?_getD, Array.getElem?_toList]
      simp [putCells, hi2, hi']
    rw [e1, List.getElem_map]
    exact .val _ rfl
  · rw [hheap b hbl, if_pos rfl, hb]; rfl
  · intro c hcb hc
    rw [hheap c hc, if_neg (Ne.symm hcb)]
  · simp
theorem FnM.sortRow {P : Program} {f : FuncId} (hE : Enters P f) (g : List Int → List Int) (hg : ∀ zs, (g zs).length = zs.length)
    (hs : ∀ (blk cap : Nat) (zs : List Int) (w : World), Holds (Value.int .i64) w blk 0 zs.toArray → blk < w.heap.size → zs.length < 4611686018427387904 →
      Calls P f #[.slice (some ⟨blk, 0, none⟩) zs.length cap] w fun e w' => e = .returned (.tuple #[]) ∧ ∃ n os, w' = grow (putRow (Value.int .i64) (Sort.ahead w n) blk 0 (g zs).toArray) os)
    (h0 : ∀ (a : Option Addr) (w : World), Calls P f #[.slice a 0 0] w fun e w' => e = .returned (.tuple #[]) ∧ w' = w)
    (v : Nat) (zs : List Int) (hz : zs.length ≤ 1048576) :
    FnM P f [.row v ⟨1, false⟩ true (zs.map fun n => .val (.int .i64 n))] [.ref 1000000000 v 0 zs.length] (fun r io => r = .tup [] ∧ io = [.row v ⟨1, false⟩ true ((g zs).map fun n => .val (.int .i64 n))]) := by
  have := FnM.row (P := P) (f := f) v (zs.map fun n => AV.val (.int .i64 n)) ((g zs).map fun n => AV.val (.int .i64 n)) (by simp [hg])
    (flatInts zs) (by intro i hi; simp [fits]) hE ?_ ?_
  · simpa using this
  · intro w b cap cs e hb hcs hcap hrd
    have h4 : (zs.map fun n => AV.val (.int .i64 n)).length = zs.length := List.length_map _
    have h1 := hs b cap zs w (holds_rd hb (by omega) hrd) (Array.getElem?_eq_some_iff.1 hb).1 (by omega)
    rw [List.length_map]
    refine h1.mono ?_
    rintro e' w' ⟨rfl, n, os, rfl⟩
    exact ⟨rfl, put_facts hb (by rw [hg]; omega)⟩
  · intro hx a w
    refine (h0 a w).mono ?_
    rintro e' w' ⟨rfl, rfl⟩
    exact ⟨rfl, Grown.refl _⟩

section
variable {P : Program} {m : Mem}
/-- A call that turns a row of ours and hands back its beginning. -/
theorem sCallT_row {f : FuncId} {d l ver j : Nat} {xs ys xt : List AV} {k : AV → Mem → Prop} {q : Pack k} (hE : Enters P f) (hlk : lookB m l = some (.row ver ⟨1, false⟩ true xs)) (hflat : isFlatL xs = true) (hlen : ys.length = xs.length) (hj : j ≤ xs.length)
    (hfy : ∀ i (h : i < ys.length), fits ⟨1, false⟩ ys[i])
    (hc : ∀ (w : World) (b cap : Nat) (cs : Array Value) (e : TypeId), w.heap[b]? = some (.cells cs e (0, 0)) → cs.size = cap → xs.length ≤ cap → (∀ i (h : i < xs.length), Rd w (fun _ => False) xs[i] (cs.toList.getD i Go.undef)) →
      Calls P f #[.slice (some ⟨b, 0, none⟩) xs.length cap] w fun e' w' => e' = .returned (.slice (some ⟨b, 0, none⟩) j cap) ∧ ∃ cs' : Array Value, cs'.size = cs.size ∧ (∀ i (h : i < ys.length), Rd w' (fun _ => False) ys[i] (cs'.toList.getD i Go.undef)) ∧
        w'.heap[b]? = some (.cells cs' e (0, 0)) ∧ (∀ c : Nat, c ≠ b → c < w.heap.size → w'.heap[c]? = w.heap[c]?) ∧ w.heap.size ≤ w'.heap.size ∧ SameOut w w')
    (h0 : xs = [] → ∀ (a : Option Addr) (w : World), Calls P f #[.slice a 0 0] w fun e' w' => e' = .returned (.slice a 0 0) ∧ Grown w w')
    (hk : k (.ref l (ver + 1) 0 j) ((l, .row (ver + 1) ⟨1, false⟩ true ys) :: m)) : sCallT P f d [.ref l ver 0 xs.length] xt m k q := by
  refine .inl fun B N φ fp S ts a w vs hR hsz hx hxl => ⟨hE, ?_⟩
  obtain ⟨u, rfl⟩ : ∃ u, vs = #[u] := by
    have : vs.size = 1 := hsz
    exact ⟨vs[0], by apply Array.ext <;> simp_all⟩
  have hx0 : RV w S φ (.ref l ver 0 xs.length) u := hx 0 (by simp)
  obtain ⟨r1, r2⟩ := rv_ref hx0
  have hver : ∀ v', known m l v' → v' < ver + 1 := by
    rintro v' ⟨k', h1, h2⟩
    rw [hlk] at h1; cases h1; exact Nat.lt_succ_of_le h2
  have nilCase : xs = [] → (∃ a', u = .slice a' 0 0) → Calls P f #[u] w fun e' w' => ∃ v, e' = .returned v ∧ Gives B N a (fun x ts' m' => ts' = ts ∧ k x m') v w' := by
    rintro h1 ⟨a', rfl⟩
    have hy : ys = [] := List.eq_nil_of_length_eq_zero (by rw [hlen, h1]; rfl)
    have hj0 : j = 0 := by rw [h1] at hj; simpa using hj
    refine (h0 h1 a' w).mono ?_
    rintro e' w' ⟨rfl, hg⟩
    refine ⟨_, rfl, (hR.grown hg).nilNext hver (nv := ver + 1) (sh := ⟨1, false⟩) (deep := true) ⟨rfl, ?_⟩⟩
    rw [hy, hj0] at hk; exact hk
  rcases hR.mSome l _ hlk with ⟨hφ, hxs, _⟩ | ⟨b, cap, hφ, hbm, _, hown⟩
  · exact nilCase hxs (r2 hφ).2
  · simp only [if_true] at hown
    obtain ⟨ad, cap', rfl, hn, hcp⟩ := r1 b _ hφ
    rcases hcp with rfl | ⟨rfl, cs0, e0, hh0, hs0⟩
    · have hx1 : xs = [] := List.eq_nil_of_length_eq_zero (by omega)
      exact nilCase hx1 ⟨ad, by rw [hx1]; rfl⟩
    · rcases own_arr hown with ⟨hx1, hf0, _⟩ | ⟨b', cap2, cs, e, fss, q1, hgf, hheap, hcs, hcap, hmx, hff, hfl, hvv⟩
      · rw [hf0] at hbm; cases hbm
      · simp only [Value.slice.injEq, Option.some.injEq, Addr.mk.injEq] at q1
        obtain ⟨⟨rfl, _⟩, _, rfl⟩ := q1
        rw [hheap] at hh0
        simp only [Option.some.injEq, Obj.cells.injEq] at hh0
        obtain ⟨rfl, rfl, _⟩ := hh0
        simp only [Nat.mul_one, Nat.zero_add] at hs0 hcs
        have hfe : ∀ i (h : i < xs.length), Rd w (fun _ => False) xs[i] (cs.toList.getD i Go.undef) ∧ fss.getD i [] = [] := by
          intro i hi
          have := flat_rd (S' := fun _ => False) (hvv i hi) (isFlatL_get hflat i hi)
          rw [elemV_cell, Nat.mul_one] at this
          exact this
        have hfs : fss.flatten = [] := List.flatten_eq_nil_iff.2 fun l hl => by
          obtain ⟨i, hi, rfl⟩ := List.getElem_of_mem hl
          have := (hfe i (hfl ▸ hi)).2
          rwa [List.getD_eq_getElem?_getD, List.getElem?_eq_getElem hi] at this
        rw [hfs] at hgf
        rw [show (0 : Nat) * (1 : Nat) = 0 from rfl]
        refine (hc w b cap' cs e hheap hs0 hn fun i hi => (hfe i hi).1).mono ?_
        rintro e' w' ⟨rfl, cs', hs', hr', hb', hoth, hsize, hout⟩
        have hbl : b < w.heap.size := (Array.getElem?_eq_some_iff.1 hheap).1
        have hszs : Szs w w' := by
          intro c cs2 e2 hc2
          by_cases ec : c = b
          · subst ec; rw [hheap] at hc2; cases hc2; exact ⟨cs', e, hb', hs'⟩
          · exact ⟨cs2, e2, by rw [hoth c ec (Array.getElem?_eq_some_iff.1 hc2).1]; exact hc2, rfl⟩
        refine ⟨_, rfl, hR.rowNext (b := b) (cap := cap) (n := j) (nv := ver + 1) (sh := ⟨1, false⟩) (deep := true) (xs := ys) (fs := [b]) hsize hout hszs hoth
          (fun l b sh ver cs e _ hb => hszs b cs e hb) (.inl hbm) hver (fun c hc => .inl (by simpa using hc)) (by simp) (fun h => (by cases h)) (by simp) ?_ ?_ ⟨rfl, hk⟩⟩
        · have e2 : [b] = b :: (List.replicate ys.length ([] : List Nat)).flatten := by
            congr 1
            exact (List.flatten_eq_nil_iff.2 fun l hl => (List.mem_replicate.1 hl).2).symm
          show Own w' (fun _ => False) _ _ [b]
          rw [e2]
          refine .arr ⟨1, false⟩ ys b cap cs' e _ hb' (by rw [hs', hcs]; simp) (by omega) hmx hfy (by simp) fun i hi => ?_
          have e3 : (List.replicate ys.length ([] : List Nat)).getD i [] = [] := by simp [List.getD_eq_getElem?_getD, hi]
          rw [e3, elemV_cell, Nat.mul_one]
          exact .rd _ _ (hr' i hi)
        · exact ⟨some ⟨b, 0, none⟩, cap', rfl, by omega, .inr ⟨rfl, cs', e, hb', by rw [hs', hs0]; simp⟩⟩
/-- The same, of numbers. -/
theorem sCallT_ints {f : FuncId} {d l ver n : Nat} {zs ys : List Int} {xt : List AV} {k : AV → Mem → Prop} {q : Pack k} (j : Nat) (hE : Enters P f) (hlk : lookB m l = some (.row ver ⟨1, false⟩ true (zs.map fun n => .val (.int .i64 n)))) (hn : n = zs.length) (hlen : ys.length = zs.length) (hj : j ≤ zs.length)
    (hz : zs.length ≤ 1048576)
    (hc : ∀ (blk cap : Nat) (w : World), Holds (Value.int .i64) w blk 0 zs.toArray → zs.length ≤ cap →
      Calls P f #[.slice (some ⟨blk, 0, none⟩) zs.length cap] w fun e' w' => e' = .returned (.slice (some ⟨blk, 0, none⟩) j cap) ∧ ∃ q, w' = putRow (Value.int .i64) (Sort.ahead w q) blk 0 ys.toArray)
    (h0 : ∀ (a : Option Addr) (w : World), Calls P f #[.slice a 0 0] w fun e' w' => e' = .returned (.slice a 0 0) ∧ w' = w)
    (hk : k (.ref l (ver + 1) 0 j) ((l, .row (ver + 1) ⟨1, false⟩ true (ys.map fun n => .val (.int .i64 n))) :: m)) : sCallT P f d [.ref l ver 0 n] xt m k q := by
  have h4 : (zs.map fun n => AV.val (.int .i64 n)).length = zs.length := List.length_map _
  rw [hn, ← h4]
  refine sCallT_row hE hlk (flatInts zs) (ys := ys.map fun n => .val (.int .i64 n)) (j := j) (by simp [hlen]) (by omega) (by intro i hi; simp [fits]) ?_ ?_ hk
  · intro w b cap cs e hb hcs hcap hrd
    have h1 := hc b cap w (holds_rd hb (by omega) hrd) (by omega)
    rw [h4]
    refine h1.mono ?_
    rintro e' w' ⟨rfl, n, rfl⟩
    refine ⟨rfl, ?_⟩
    have := put_facts (os := #[]) (n := n) (ys := ys) hb (by omega)
    simpa only [grow_empty] using this
  · intro hx a w
    refine (h0 a w).mono ?_
    rintro e' w' ⟨rfl, rfl⟩
    exact ⟨rfl, Grown.refl _⟩
end
end Go.Vc
