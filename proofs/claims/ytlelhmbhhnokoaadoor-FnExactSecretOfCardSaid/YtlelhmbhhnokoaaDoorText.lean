/-
  The library's functions on texts, as contracts of the layer Vc.
-/
import Derived.Test.YtlelhmbhhnokoaaDoorDecim
import Derived.Test.YtlelhmbhhnokoaaDoorNum
import Derived.Test.YtlelhmbhhnokoaaDoorLay
import Derived.Sort.Grow
import Derived.Test.YtlelhmbhhnokoaaDoorVcTop
set_option linter.unusedVariables false
set_option linter.unusedSimpArgs false
set_option linter.unnecessarySimpa false
namespace Go.Vc
open Go.Proofs Go.RowKit
set_option maxRecDepth 100000
theorem ByteArray.ext_list {s : ByteArray} : s = ⟨s.data.toList.toArray⟩ := by cases s; rfl
theorem Grown.of_below {w w' : World} (h : Below w.heap.size w w') : Grown w w' := by
  obtain ⟨h1, h2, h3, h4, h5⟩ := h
  exact ⟨h4, h5, ⟨h1, h2, h3⟩⟩
theorem Grown.of_grow (w : World) (k : Nat) (os : Array Obj) : Grown w (Sort.grow (w.drewN k) os) :=
  ⟨by simp [Sort.grow], fun b hb => Sort.heap_grow_old _ _ (by simpa using hb), ⟨rfl, rfl, rfl⟩⟩
/-- A contract on values that lie in no memory. -/
theorem Fn.plain {P : Program} {f : FuncId} (us : List Value) {r : AV} (hE : Enters P f)
    (hc : ∀ (w : World) (S : Nat → Prop), Kon w S → Calls P f us.toArray w fun e w' => ∃ v fs, e = .returned v ∧ Grown w w' ∧ Own w' (fun _ => False) r v fs ∧ fs.Nodup ∧ ∀ b, b ∈ fs → w.heap.size ≤ b) :
    Fn P f (us.map .val) true (· = r) := by
  refine ⟨hE, fun w S vs _ hk hsz hr => ?_⟩
  have e : vs = us.toArray := by
    rw [List.length_map] at hsz
    apply Array.ext
    · simpa using hsz
    · intro i h1 h2
      have h3 : i < (us.map AV.val).length := by simpa using h2
      have := hr i h3
      rw [List.getElem_map] at this
      generalize hu : vs.toList.getD i Go.undef = u at this
      cases this
      have h4 : i < us.length := by simpa using h2
      have h5 : vs.toList.getD i Go.undef = vs[i] := by simp [List.getD_eq_getElem?_getD, h1]
      rw [← h5, hu]; simp
  subst e
  refine (hc w S hk).mono ?_
  rintro e w' ⟨v, fs, rfl, hg, ho, hn, hb⟩
  exact ⟨r, v, rfl, rfl, hg, by simp only [FnRes, if_true]; exact ⟨fs, ho, hn, hb⟩⟩
theorem Fn.plainE {P : Program} {f : FuncId} (us : List Value) {post : AV → Prop} (hE : Enters P f)
    (hc : ∀ (w : World) (S : Nat → Prop), Kon w S → Calls P f us.toArray w fun e w' => ∃ r v fs, post r ∧ e = .returned v ∧ Grown w w' ∧ Own w' (fun _ => False) r v fs ∧ fs.Nodup ∧ ∀ b, b ∈ fs → w.heap.size ≤ b) :
    Fn P f (us.map .val) true post := by
  refine ⟨hE, fun w S vs _ hk hsz hr => ?_⟩
  have e : vs = us.toArray := by
    rw [List.length_map] at hsz
    apply Array.ext
    · simpa using hsz
    · intro i h1 h2
      have h3 : i < (us.map AV.val).length := by simpa using h2
      have := hr i h3
      rw [List.getElem_map] at this
      generalize hu : vs.toList.getD i Go.undef = u at this
      cases this
      have h4 : i < us.length := by simpa using h2
      have h5 : vs.toList.getD i Go.undef = vs[i] := by simp [List.getD_eq_getElem?_getD, h1]
      rw [← h5, hu]; simp
  subst e
  refine (hc w S hk).mono ?_
  rintro e w' ⟨r, v, fs, hp, rfl, hg, ho, hn, hb⟩
  exact ⟨r, v, rfl, hp, hg, by simp only [FnRes, if_true]; exact ⟨fs, ho, hn, hb⟩⟩
theorem ownVal {w : World} {v : Value} (h : v.oneCell' = true) : Own w (fun _ => False) (.val v) v [] := .rd _ _ (.val _ h)
theorem cell_of {w : World} {g : Nat} {v : Value} {e : TypeId} {fr : Nat × Nat} (h : w.heap[g]? = some (.cells #[v] e fr)) : w.cell? ⟨g, 0, none⟩ = some v := by
  simp [World.cell?, h]
theorem ownTup {w : World} (xs : List AV) (vs : List Value) (hl : vs.length = xs.length) (h : ∀ i (h : i < xs.length), Own w (fun _ => False) xs[i] (vs.getD i Go.undef) []) : Own w (fun _ => False) (.tup xs) (.tuple vs.toArray) [] := by
  have e : ([] : List Nat) = (List.replicate xs.length ([] : List Nat)).flatten := (List.flatten_eq_nil_iff.2 fun l hl => (List.mem_replicate.1 hl).2).symm
  rw [e]
  refine .tup xs _ _ (by simpa using hl) (by simp) fun i hi => ?_
  have e3 : (List.replicate xs.length ([] : List Nat)).getD i [] = [] := by simp [List.getD_eq_getElem?_getD, hi]
  rw [e3]
  exact h i hi
/- strconv.FormatInt -/
theorem kon_tab {w : World} {S : Nat → Prop} (h : Kon w S) : Lib.TabIs Tryd.prog w "internal/strconv.uint64pow10" .u64 Lib.pow10Tab := by
  obtain ⟨_, cs, e, fr, h1, h2⟩ := h 3 kTab (by simp [kons])
  unfold Lib.TabIs World.var?
  have hg : Tryd.prog.globalNamed "internal/strconv.uint64pow10" = some 3 := by kernel_rfl
  rw [hg, Option.bind_some, h1, show cs = _ from h2]
  simp [Lib.pow10Tab, Function.comp_def]
theorem c_FormatInt {n : Int} (h : I64 n) : Fn Tryd.prog 84 [eI n, eI 10] true (· = eS (Lib.itoa n)) := by
  refine Fn.plain [.int .i64 n, .int .i64 10] ⟨Tryd.f84, _, Tryd.func84, by decide, rfl⟩ fun w S hk => ?_
  refine (Any.strconv_FormatInt_10 Tryd.layFormat n h.1 h.2 w (kon_tab hk)).mono ?_
  rintro e w' ⟨rfl, k, os, rfl⟩
  exact ⟨_, [], rfl, Grown.of_grow _ _ _, ownVal rfl, List.nodup_nil, fun b hb => by cases hb⟩
/- strconv.ParseInt -/
theorem kon_max {w : World} {S : Nat → Prop} (h : Kon w S) (g : Nat) (hg : (g, kInt) ∈ kons) : ∃ m, w.cell? ⟨g, 0, none⟩ = some (.int .i64 m) := by
  obtain ⟨_, cs, e, fr, h1, m, rfl⟩ := h g kInt hg
  exact ⟨m, cell_of h1⟩
theorem hi_split : (Tryd.prog.info? (Tryd.laySplit_ren.t 9)).map (fun i => (i.zero, i.size, i.bytes)) = some (some (.string ByteArray.empty), 1, 16) := by kernel_rfl
theorem spl_length_le (c : UInt8) : ∀ (l : List UInt8), (spl c l).length ≤ l.length + 1
  | [] => by simp [spl]
  | b :: l => by
    have := spl_length_le c l
    rw [spl]
    split
    · simp; omega
    · split
      · rename_i h t he
        rw [he] at this
        simp at this ⊢; omega
      · simp
theorem c_Split (s : List UInt8) (c : UInt8) (h : s.length ≤ 1048576) : Fn Tryd.prog 44 [eS s, eS [c]] true (· = eSs (spl c s)) := by
  refine Fn.plain [.string ⟨s.toArray⟩, .string ⟨[c].toArray⟩] ⟨Tryd.f44, _, Tryd.func44, by decide, rfl⟩ fun w S hk => ?_
  have hsz : (⟨s.toArray⟩ : ByteArray).size = s.length := ba_size s
  obtain ⟨m, hm⟩ := kon_max hk 0 (by simp [kons])
  refine (Any.strings_Split Tryd.laySplit hi_split ⟨s.toArray⟩ ⟨[c].toArray⟩ m w (by omega) hm (by show 1 ≤ 1; omega)).mono ?_
  rintro e w' ⟨rfl, rfl⟩
  have hs := splitB_spl c _ s rfl
  have hl : (spl c s).length = Lib.countB ⟨s.toArray⟩ ⟨[c].toArray⟩ + 1 := spl_count c _ s rfl
  have hle := spl_length_le c s
  refine ⟨_, [w.heap.size], rfl, ⟨by simp, fun b hb => old w _ b hb, ⟨rfl, rfl, rfl⟩⟩, ?_, by simp, fun b hb => by simp at hb; omega⟩
  rw [← hl, show (⟨#[c]⟩ : ByteArray) = ⟨[c].toArray⟩ from rfl] at *
  have e2 : [w.heap.size] = w.heap.size :: (List.replicate ((spl c s).map eS).length ([] : List Nat)).flatten := by
    congr 1
    exact (List.flatten_eq_nil_iff.2 fun l hl => (List.mem_replicate.1 hl).2).symm
  rw [e2, hs]
  have := Own.arr (w := w.alloc (.cells (((spl c s).map fun a => (⟨a.toArray⟩ : ByteArray)).map Value.string).toArray (Tryd.laySplit_ren.t 9))) (S := fun _ => False) ⟨1, false⟩ ((spl c s).map eS) w.heap.size (spl c s).length _ _ (List.replicate ((spl c s).map eS).length []) (new_at w _)
    (by simp) (by simp) (by unfold maxLen; omega) (by intro i hi; simp [fits]) (by simp) fun i hi => ?_
  · simpa using this
  · have e3 : (List.replicate ((spl c s).map eS).length ([] : List Nat)).getD i [] = [] := by rw [List.getD_eq_getElem?_getD, List.getElem?_replicate]; split <;> rfl
    have hi2 : i < (spl c s).length := by simpa using hi
    rw [e3, elemV_cell, Nat.mul_one, List.getElem_map]
    have e4 : ((((spl c s).map fun a => (⟨a.toArray⟩ : ByteArray)).map Value.string).toArray).toList.getD i Go.undef = .string ⟨((spl c s)[i]).toArray⟩ := by
      simp [List.getD_eq_getElem?_getD, hi2]
    rw [e4]
    exact ownVal rfl
/- a row of texts that a callee reads -/
theorem rd_strs {w : World} {S : Nat → Prop} {xs : List (List UInt8)} {v : Value} (h : Rd w S (eSs xs) v) :
    (xs = [] ∧ ∃ a, v = .slice a 0 0) ∨ ∃ b off cap, v = .slice (some ⟨b, off, none⟩) xs.length cap ∧ b < w.heap.size ∧ xs.length ≤ cap ∧ ∀ (j : Nat) x, xs[j]? = some x → w.cell? ⟨b, off + j, none⟩ = some (.string ⟨x.toArray⟩) := by
  unfold eSs at h
  generalize hxs : xs.map eS = ys at h
  have hlen : ys.length = xs.length := by rw [← hxs]; simp
  cases h with
  | nil sh a => exact .inl ⟨List.eq_nil_of_length_eq_zero (by rw [← hlen]; rfl), a, rfl⟩
  | arr sh ys b off cap cs e fr hS hb hcap hl hf hv =>
    refine .inr ⟨b, off, cap, by rw [hlen], (Array.getElem?_eq_some_iff.1 hb).1, by omega, fun j x hj => ?_⟩
    obtain ⟨hj1, hj2⟩ := List.getElem?_eq_some_iff.1 hj
    have hj3 : j < ys.length := by omega
    have h2 := hv j hj3
    have hx : ys[j] = eS x := by simp [← hxs, hj2]
    rw [hx] at h2
    rw [elemV_cell, Nat.mul_one] at h2
    have h4 : cs.toList.getD (off + j) Go.undef = .string ⟨x.toArray⟩ := by
      generalize cs.toList.getD (off + j) Go.undef = u at h2
      cases h2; rfl
    have h5 : off + j < cs.size := by simp only [Nat.mul_one] at hl; omega
    rw [List.getD_eq_getElem?_getD, Array.getElem?_toList, Array.getElem?_eq_getElem h5] at h4
    simp only [World.cell?, hb, Option.isSome_none, Bool.false_eq_true, ↓reduceIte, Array.getElem?_eq_getElem h5]
    exact congrArg some h4
theorem c_Join (xs : List (List UInt8)) (sep : List UInt8) (h1 : xs.length ≤ 1048576) (h2 : (Lib.join xs sep).length ≤ 140737488355328) : Fn Tryd.prog 61 [eSs xs, eS sep] true (· = eS (Lib.join xs sep)) := by
  refine ⟨⟨Tryd.f61, _, Tryd.func61, by decide, rfl⟩, fun w S vs hS hk hsz hr => ?_⟩
  obtain ⟨u, v, rfl⟩ : ∃ u v, vs = #[u, v] := by
    have : vs.size = 2 := hsz
    exact ⟨vs[0], vs[1], by apply Array.ext <;> simp_all; intro i h; have : i = 0 ∨ i = 1 := by omega
                            rcases this with rfl | rfl <;> (intro _; rfl)⟩
  have r0 : Rd w S (eSs xs) u := hr 0 (by simp)
  have r1 : Rd w S (eS sep) v := hr 1 (by simp)
  obtain rfl : v = .string ⟨sep.toArray⟩ := by cases r1; rfl
  have hm : ((xs.map fun a => (⟨a.toArray⟩ : ByteArray)).map (·.data.toList)) = xs := by simp [List.map_map, Function.comp_def]
  rcases rd_strs r0 with ⟨rfl, a, rfl⟩ | ⟨b, off, cap, rfl, hb, hcap, hc⟩
  · refine (Any.strings_Join_none Tryd.layJoin Tryd.extraJoin a 0 ⟨sep.toArray⟩ w).mono ?_
    rintro e w' ⟨rfl, rfl⟩
    exact ⟨_, _, rfl, rfl, Grown.refl _, by simp only [FnRes, if_true]; exact ⟨[], ownVal rfl, List.nodup_nil, fun b hb => by cases hb⟩⟩
  · have := Any.strings_Join Tryd.layJoin Tryd.extraJoin b off cap (xs.map fun a => (⟨a.toArray⟩ : ByteArray)) ⟨sep.toArray⟩ w (fun j x hj => by
      rw [List.getElem?_map] at hj
      obtain ⟨y, hy, rfl⟩ := Option.map_eq_some_iff.1 hj
      exact hc j y hy) hb (by simp; omega) (by simpa using hcap) (by rw [hm, ba_data]; exact h2)
    rw [hm, ba_data, List.length_map] at this
    refine this.mono ?_
    rintro e w' ⟨rfl, hbl⟩
    exact ⟨_, _, rfl, rfl, Grown.of_below hbl, by simp only [FnRes, if_true]; exact ⟨[], ownVal rfl, List.nodup_nil, fun b hb => by cases hb⟩⟩
end Go.Vc
