/-
  Deleting one element of a row of items, by the library's text.
-/
import Derived.Test.YtlelhmbhhnokoaaVcDel
import Derived.Test.YtlelhmbhhnokoaaNum
import Derived.Shelf.RegionOpenPlain
import Derived.Deep.LoopGhost
import Derived.Deep.RegionLaw
import Derived.Lib.Walk
import Derived.Lib.SliceRun
set_option linter.unusedVariables false
set_option linter.unusedSimpArgs false
set_option linter.unnecessarySimpa false
namespace Go.Vc
open Go.Proofs Go.Shelf Go.RowKit Go.Lib Go.Sort
set_option maxRecDepth 1000000
set_option maxHeartbeats 4000000 in
theorem delItems_run (w : World) (b cap i j n : Nat) (cs : Array Value) (e : TypeId) (hb : w.heap[b]? = some (.cells cs e (0, 0))) (hcs : cs.size = cap * 3) (hcap : cap ≤ 9223372036854775807) (hj : j = i + 1) (hi : i < n) (hn : n ≤ cap) (h1 : ∀ v, v ∈ (cs.toList.drop (j * 3)).take ((n - j) * 3) → v.oneCell' = true) :
    Calls Try.prog 27 #[.slice (some ⟨b, 0, none⟩) n cap, .int .i64 i, .int .i64 j] w fun e' w' => e' = .returned (.slice (some ⟨b, 0, none⟩) (n - 1) cap) ∧
      ∃ q, w' = ((w.drewN q).setCells b (i * 3) ((cs.toList.drop (j * 3)).take ((n - j) * 3))).setCells b ((n - 1) * 3) [.bool false, .int .i64 0, .int .i64 0] := by
  obtain ⟨news, hnews⟩ : ∃ news, news = (cs.toList.drop (j * 3)).take ((n - j) * 3) := ⟨_, rfl⟩
  rw [← hnews]
  have hlen : news.length = (n - j) * 3 := by rw [hnews]; simp; omega
  obtain ⟨A, hA, hsrc⟩ : ∃ A : Addr, (if cap = j then (some ⟨b, 0, none⟩ : Option Addr) else some ⟨b, j * 3, none⟩) = some A ∧ Hid (∀ t u, news[t]? = some u → w.drew.cell? (A.add t) = some u) := by
    by_cases h : cap = j
    · refine ⟨⟨b, 0, none⟩, by simp [h], fun t u hu => ?_⟩
      have h0 : news.length = 0 := by rw [hlen]; omega
      rw [List.length_eq_zero_iff.1 h0] at hu
      simp at hu
    · refine ⟨⟨b, j * 3, none⟩, by simp [h], fun t u hu => ?_⟩
      have ht : t < (n - j) * 3 := by
        have := (List.getElem?_eq_some_iff.1 hu).1
        rwa [hlen] at this
      rw [hnews, List.getElem?_take, if_pos ht, List.getElem?_drop] at hu
      rw [Addr.add_lit]
      show w.cell? _ = _
      simp only [World.cell?, hb, Option.isSome_none, Bool.false_eq_true, ↓reduceIte]
      simpa using hu
  have s1 : Hid (news.length = (n - j) * 3) := hlen
  have s2 : Hid (∀ u ∈ news, u.oneCell' = true) := by
    intro u hu
    rw [hnews] at hu
    exact h1 u hu
  have s3 : Hid (∀ t, t < news.length → (w.drew.cell? ⟨b, 0 + i * 3 + t, none⟩).isSome = true ∧ w.drew.frozen? ⟨b, 0 + i * 3 + t, none⟩ = false) := by
    intro t ht
    rw [hlen] at ht
    have hlt : 0 + i * 3 + t < cs.size := by omega
    refine ⟨?_, ?_⟩
    · show (w.cell? _).isSome = true
      simp [World.cell?, hb]; omega
    · show w.frozen? _ = false
      simp [World.frozen?, hb]
  obtain ⟨W1, hW1⟩ : ∃ W1, W1 = w.drew.setCells b (0 + i * 3) news := ⟨_, rfl⟩
  have hW1' : W1.heap[b]? = some (.cells (cs.toList.take (0 + i * 3) ++ news ++ cs.toList.drop (0 + i * 3 + news.length)).toArray e (0, 0)) := by
    rw [hW1, setCells_row (P := Try.prog) (w := w.drew) hb s2.out (by rw [hlen]; omega)]
    exact heap_setRow (w := w.drew) hb _
  have hsz : ((cs.toList.take (0 + i * 3) ++ news ++ cs.toList.drop (0 + i * 3 + news.length)).toArray).size = cap * 3 := by
    simp [hlen]; omega
  generalize (cs.toList.take (0 + i * 3) ++ news ++ cs.toList.drop (0 + i * 3 + news.length)).toArray = cs1 at hW1' hsz
  have hcl : ∀ ty, (Builtin.clear_ #[30] ty #[.slice (some ⟨b, (i + (n - j)) * 3, none⟩) (n - (i + (n - j))) (cap - (i + (n - j)))]).run Try.prog W1 = .ok (.tuple #[]) (W1.setCells b ((n - 1) * 3) [.bool false, .int .i64 0, .int .i64 0]) := by
    intro ty
    have e1 : i + (n - j) = n - 1 := by omega
    have e2 : n - (n - 1) = 1 := by omega
    rw [e1, e2]
    have hst := run_storeCells_cells (P := Try.prog) b ((n - 1) * 3) [.bool false, .int .i64 0, .int .i64 0] 0 W1 (fun j hj => by
      have hj : j < 3 := hj
      have hlt : (n - 1) * 3 + 0 + j < cs1.size := by omega
      simp [World.cell?, hW1']; omega) (fun j hj => by simp [World.frozen?, hW1']) (by
      intro v hv
      simp only [List.mem_cons, List.not_mem_nil, or_false] at hv
      rcases hv with rfl | rfl | rfl <;> rfl)
    simp only [Nat.add_zero] at hst
    have hz : (Builtin.zeroCells #[Value.bool false, .int .i64 0, .int .i64 0] 1).toList = [.bool false, .int .i64 0, .int .i64 0] := by
      refine List.ext_getElem (by simp [Builtin.zeroCells]) fun t h1 h2 => ?_
      have : t = 0 ∨ t = 1 ∨ t = 2 := by simp at h2; omega
      rcases this with rfl | rfl | rfl <;> simp [Builtin.zeroCells]
    simp [Builtin.clear_, run_underlying Try.underlying30, Try.zeroValue49, Value.cells, hz, hst]
  have hW : Hid (W1 = w.drew.setCells b (0 + i * 3) news) := hW1
  have X : Aside (W1 = w.drew.setCells b (0 + i * 3) news) := hW1
  have hj' : Aside (j = i + 1) := hj
  have hij : (i == j) = false := by simp; omega
  have hlt : i < j := by omega
  have hjn : j ≤ n := by omega
  have mixed : Try.prog.follows .mixedOrders = true := mixed
  have hic : i ≤ cap := by omega
  have hjc : j ≤ cap := by omega
  clear hW1 hW1' hsz hnews hlen hb hcs h1 hj
  go_enter Try.func27, Try.ntmps27
  obtain ⟨i0, hi0⟩ : ∃ i, Try.prog.info? 49 = some i := Option.isSome_iff_exists.1 (by kernel_rfl)
  have hz1 : i0.size = 3 := by
    have : (Try.prog.info? 49).map (fun i => i.size) = some 3 := by kernel_rfl
    rw [hi0] at this
    simpa using this
  go_wp2_with fail
  go_region_law_o (refine step_append_room rfl (.tmp 22) (.tmp 25) 30 rfl 49 i0 3 Try.underlying30 hi0 hz1 b 0 i cap (by simp [Act.eval, Act.put]) A (n - j) (cap - j) news (by simp [Act.eval, Act.put]) s1.out hsrc.out s2.out (by omega) s3.out ?_; rw [← hW.out])
  go_wp2
  go_ret
  have hj := hj'.out
  refine ⟨by rw [show n - 1 = i + (n - j) by omega]; rfl, 1, ?_⟩
  rw [X.out, Nat.zero_add]
  rfl
end Go.Vc
