import Derived.Shelf.Spec.SlicesInsertGrow
import Derived.Test.YthdheoafaakbbaaGreatPkLawOrderKeysD
open Bool renaming false_eq_true → uq0, or_false → uq1
open List renaming cons_append → uq2, nil_append → uq3
set_option linter.unusedVariables false
set_option linter.unusedSimpArgs false
set_option linter.unnecessarySimpa false
namespace Go.Vc
open Go.Proofs Go.Shelf Go.RowKit Go.Lib Go.Sort
set_option maxRecDepth 1000000
theorem insI_info : (Tryz.prog.info? 2).map (fun i => (i.zero, i.size, i.bytes)) = some (some (.int .i64 0), 1, 8) := by kernel_rfl
theorem insI_over {w : World} {vb b o vc lb cb kA kB : Nat} {tA tB : TypeId} (hne : vb ≠ b) (hsa : w.shape? vb = some (tA, kA)) (hsb : w.shape? b = some (tB, kB)) (hkB : kB ≠ 0) (hfa : w.frozen? ⟨vb, 0, none⟩ = false) (hfe : w.frozen? ⟨vb, kA, none⟩ = false) :
    (callFunc 77 #[.slice (some ⟨vb, 0, none⟩) 1 vc, .slice (some ⟨b, o, none⟩) lb cb]).run Tryz.prog w = .ok (.value (.bool false)) w := by
  rw [run_callFunc_extern Tryz.func77 (by kernel_rfl) (by kernel_rfl) (by kernel_rfl) (e := Extern.SlicesOverlaps.overlaps #[31, 31] #[4]) (by kernel_rfl),
    Lib.run_overlaps_apart w 31 4 2 Tryz.underlying31 1 Tryz.sizeOf2 ⟨vb, 0, none⟩ ⟨b, o, none⟩ 1 vc lb cb hne tA tB kA kB hsa hsb hkB hfa hfe]
  rfl
set_option maxHeartbeats 4000000 in
theorem insI_end (w : World) (b vb c vc n : Nat) (x : Value) (hroom : n + 1 ≤ c) (hc63 : c ≤ 9223372036854775807) (hsp : (w.cell? ⟨b, n, none⟩).isSome = true) (hfz : w.frozen? ⟨b, n, none⟩ = false) (hx : w.cell? ⟨vb, 0, none⟩ = some x) (h1x : x.oneCell' = true) :
    Calls Tryz.prog 48 #[.slice (some ⟨b, 0, none⟩) n c, .int .i64 n, .slice (some ⟨vb, 0, none⟩) 1 vc] w fun e w' => e = .returned (.slice (some ⟨b, 0, none⟩) (n + 1) c) ∧ w' = w.setCells b n [x] := by
  obtain ⟨m, hm⟩ : ∃ m, m = 1 := ⟨1, rfl⟩
  obtain ⟨off, hoff⟩ : ∃ off, off = 0 := ⟨0, rfl⟩
  have hsrc : Src Tryz.prog 1 31 (.slice (some ⟨vb, off, none⟩) m vc) m [x] w := Src.ofSlice w Tryz.underlying31 ⟨vb, off, none⟩ m vc [x] (by simp [hm]) (fun j u hj => by
    rw [Addr.add_lit, hoff]
    cases j with
    | zero => simpa using hj ▸ hx
    | succ j => simp at hj) (by simpa using h1x)
  have mixed : Tryz.prog.follows .mixedOrders = true := mixed
  have hz1 : ¬ ((m : Int) = 0) := by omega
  have hr2 : n + m ≤ c := by omega
  have hs2 : ∀ j, j < [x].length → (w.cell? ⟨b, off + n + j, none⟩).isSome = true := fun j hj => by
    have : j = 0 := by simpa using hj
    subst this; simpa [hoff] using hsp
  have hf2 : ∀ j, j < [x].length → w.frozen? ⟨b, off + n + j, none⟩ = false := fun j hj => by
    have : j = 0 := by simpa using hj
    subst this; simpa [hoff] using hfz
  rw [show n + 1 = n + m by omega]
  rw [show w.setCells b n [x] = w.setCells b (off + n) [x] by rw [hoff, Nat.zero_add]]
  have key : Calls Tryz.prog 48 #[.slice (some ⟨b, off, none⟩) n c, .int .i64 n, .slice (some ⟨vb, off, none⟩) m vc] w fun e w' => e = .returned (.slice (some ⟨b, off, none⟩) (n + m) c) ∧ w' = w.setCells b (off + n) [x] := by
    clear hm hoff hsp hfz hx hroom
    go_enter Tryz.func48, Tryz.ntmps48
    go_wp2_with (at_builtin; refine wpList_append_room1 _ rfl _ _ 31 31 rfl 2 _ _ Tryz.underlying31 insI_info b off n c rfl _ rfl m [x] hsrc hr2 hs2 hf2 ?_)
    go_ret
    exact ⟨rfl, rfl⟩
  subst hm hoff
  exact key
set_option maxHeartbeats 4000000 in
theorem insI_endg (w : World) (base : Option Addr) (vb c vc n : Nat) (cs : List Value) (x : Value) (hnc : n ≤ c) (hroom : c < n + 1) (hbig : n + 1 ≤ 1073741824) (hcl : cs.length = n) (hnil : base = none → n = 0)
    (hcs : ∀ a, base = some a → ∀ j v, cs[j]? = some v → w.cell? (a.add j) = some v) (hx : w.cell? ⟨vb, 0, none⟩ = some x) (h1x : x.oneCell' = true) :
    Calls Tryz.prog 48 #[.slice base n c, .int .i64 n, .slice (some ⟨vb, 0, none⟩) 1 vc] w fun e w' => e = .returned (.slice (some ⟨w.heap.size, 0, none⟩) (n + 1) (grownCap w (n + 1) c 2)) ∧
      w' = w.drew.alloc (.cells ((cs ++ [x]).toArray ++ Builtin.zeroCells (.int .i64 0 : Value).cells (grownCap w (n + 1) c 2 - (n + 1))) 2) := by
  obtain ⟨m, hm⟩ : ∃ m, m = 1 := ⟨1, rfl⟩
  obtain ⟨off, hoff⟩ : ∃ off, off = 0 := ⟨0, rfl⟩
  obtain ⟨i0, hi0, hz0, hzs, hzb⟩ := info_parts insI_info
  have hsrc : Src Tryz.prog i0.size 31 (.slice (some ⟨vb, off, none⟩) m vc) m [x] w := by
    rw [hzs]
    exact Src.ofSlice w Tryz.underlying31 ⟨vb, off, none⟩ m vc [x] (by simp [hm]) (fun j u hj => by
      rw [Addr.add_lit, hoff]
      cases j with
      | zero => simpa using hj ▸ hx
      | succ j => simp at hj) (by simpa using h1x)
  have mixed : Tryz.prog.follows .mixedOrders = true := mixed
  have hz1 : ¬ ((m : Int) = 0) := by omega
  rw [show n + 1 = n + m by omega]
  have hold : (Builtin.firstCells i0.size n (.slice base n c)).run Tryz.prog w.drew = .ok cs.toArray w.drew := by
    rw [hzs]
    cases base with
    | none =>
      have h0 := hnil rfl
      subst h0
      rw [List.length_eq_zero_iff.1 hcl]
      exact run_firstCells_none w.drew 1 0 0 c
    | some a => exact run_firstCells_some w.drew 1 n a n c cs (by omega) (fun j v hj => hcs a rfl j v hj)
  have hrun : ∀ ty, (Builtin.append_ #[31, 31] ty #[.slice base n c, .slice (some ⟨vb, off, none⟩) m vc]).run Tryz.prog w = _ := fun ty =>
    run_append_grow_src w 31 31 ty 2 i0 _ Tryz.underlying31 hi0 hz0 base n c cs hold _ m [x] hsrc (by omega) (by omega) (by rw [hzb]; exact growslice_fits (by omega) (by omega))
  have key : Calls Tryz.prog 48 #[.slice base n c, .int .i64 n, .slice (some ⟨vb, off, none⟩) m vc] w fun e w' => e = .returned (.slice (some ⟨w.heap.size, 0, none⟩) (n + m) (grownCap w (n + m) c 2)) ∧
      w' = w.drew.alloc (.cells ((cs ++ [x]).toArray ++ Builtin.zeroCells (.int .i64 0 : Value).cells (grownCap w (n + m) c 2 - (n + m))) 2) := by
    have hc63 : c ≤ 9223372036854775807 := by omega
    clear hm hoff hx
    go_enter Tryz.func48, Tryz.ntmps48
    cases base with
    | none =>
      have h0 := hnil rfl
      subst h0
      go_wp2_with (at_builtin; refine Lib.wpList_append_run _ rfl _ _ _ _ rfl _ _ rfl rfl _ _ (hrun _) ?_)
      go_ret
      exact ⟨rfl, rfl⟩
    | some a =>
      go_wp2_with (at_builtin; refine Lib.wpList_append_run _ rfl _ _ _ _ rfl _ _ rfl rfl _ _ (hrun _) ?_)
      go_ret
      exact ⟨rfl, rfl⟩
  subst hm hoff
  exact key
set_option maxHeartbeats 4000000 in
theorem insI_shift (w : World) (b vb c vc i n kA kB : Nat) (tA tB : TypeId) (cs : List Value) (x : Value) (hi : i < n) (hroom : n + 1 ≤ c) (hc63 : c ≤ 9223372036854775807) (hne : vb ≠ b) (hcl : cs.length = n)
    (hcs : ∀ j v, cs[j]? = some v → w.cell? ⟨b, j, none⟩ = some v) (hsp : ∀ j, j < n + 1 → (w.cell? ⟨b, j, none⟩).isSome = true) (hfz : ∀ j, j < n + 1 → w.frozen? ⟨b, j, none⟩ = false)
    (hx : w.cell? ⟨vb, 0, none⟩ = some x) (h1x : x.oneCell' = true) (h1c : ∀ v ∈ cs, v.oneCell' = true)
    (hsa : w.shape? vb = some (tA, kA)) (hsb : w.shape? b = some (tB, kB)) (hkB : kB ≠ 0) (hfa : w.frozen? ⟨vb, 0, none⟩ = false) (hfe : w.frozen? ⟨vb, kA, none⟩ = false) :
    Calls Tryz.prog 48 #[.slice (some ⟨b, 0, none⟩) n c, .int .i64 i, .slice (some ⟨vb, 0, none⟩) 1 vc] w fun e w' => e = .returned (.slice (some ⟨b, 0, none⟩) (n + 1) c) ∧ w' = (w.drew.setCells b (i + 1) (cs.drop i)).setCells b i [x] := by
  obtain ⟨m, hm⟩ : ∃ m, m = 1 := ⟨1, rfl⟩
  obtain ⟨off, hoff⟩ : ∃ off, off = 0 := ⟨0, rfl⟩
  have mixed : Tryz.prog.follows .mixedOrders = true := mixed
  have hov : ∀ lb cb, (callFunc 77 #[.slice (some ⟨vb, off, none⟩) m vc, .slice (some ⟨b, off + (i + m), none⟩) lb cb]).run Tryz.prog w = .ok (.value (.bool false)) w := fun lb cb => by
    rw [hm, hoff]; exact insI_over hne hsa hsb hkB hfa hfe
  have hsz : (Tryz.prog.info? 2).map (·.size) = some 1 := by
    obtain ⟨i0, hi0, h0, h1, h2⟩ := info_parts insI_info
    rw [hi0]; simp [h1]
  have hdl : (cs.drop i).length = n - i := by rw [List.length_drop, hcl]
  have hz1 : ¬ ((m : Int) = 0) := by omega
  have hz2 : ¬ ((i : Int) = (n : Int)) := by omega
  have hr2 : n + m ≤ c := by omega
  have hw1 : IntKind.i64.wrap ((i : Int) + (m : Int)) = (i : Int) + (m : Int) := by rw [IntKind.wrap_i64]; omega
  have hb1 : (0 : Int) ≤ (i : Int) + (m : Int) := by omega
  have hin : i ≤ n := by omega
  have htn : ((i : Int) + (m : Int)).toNat = i + m := by omega
  have hb2 : ¬ (c = i + m) := by omega
  have hb3 : (i : Int) ≤ (n : Int) + (m : Int) := by omega
  have hb4 : ¬ (c = i) := by omega
  have cl1 : ∀ j, j < n + m → (w.cell? ⟨b, off + j, none⟩).isSome = true := fun j hj => by rw [hoff, Nat.zero_add]; exact hsp j (by omega)
  have fz1 : ∀ j, j < n + m → w.frozen? ⟨b, off + j, none⟩ = false := fun j hj => by rw [hoff, Nat.zero_add]; exact hfz j (by omega)
  have hcp1 : ∀ ty dc sc, (Builtin.copy_ #[31, 31] ty #[.slice (some ⟨b, off + (i + m), none⟩) (n + m - (i + m)) dc, .slice (some ⟨b, off + i, none⟩) (n + m - i) sc]).run Tryz.prog w.drew = .ok (goInt (cs.drop i).length) (w.drew.setCells b (off + (i + m)) (cs.drop i)) := fun ty dc sc =>
    run_copy_cells w.drew _ _ ty 2 b (off + (i + m)) (n + m - (i + m)) dc ⟨b, off + i, none⟩ (n + m - i) sc (cs.drop i) Tryz.underlying31 hsz (by rw [hdl]; simp only [Nat.min_def]; split <;> omega)
      (fun j v hj => by rw [Addr.add_lit, Nat.add_assoc, hoff, Nat.zero_add]; exact hcs (i + j) v (by rwa [List.getElem?_drop] at hj))
      (fun j hj => by rw [Nat.add_assoc]; exact cl1 _ (by omega)) (fun j hj => by rw [Nat.add_assoc]; exact fz1 _ (by omega)) (fun v hv => h1c v (List.mem_of_mem_drop hv))
  obtain ⟨W1, hW1⟩ : ∃ W1, W1 = w.drew.setCells b (off + (i + m)) (cs.drop i) := ⟨_, rfl⟩
  have hsp1 : ∀ k, k < n + m → (W1.cell? ⟨b, off + k, none⟩).isSome = true := fun k hk => by
    rw [hW1]
    exact isSome_setCells b _ _ _ (fun j hj => by rw [Nat.add_assoc]; exact cl1 _ (by omega)) _ (cl1 k hk)
  have hcp2 : ∀ (W : World), (∀ x, W.cell? x = W1.cell? x) → (∀ x, W.frozen? x = W1.frozen? x) → ∀ ty dc, (Builtin.copy_ #[31, 31] ty #[.slice (some ⟨b, off + i, none⟩) (n + m - i) dc, .slice (some ⟨vb, off, none⟩) m vc]).run Tryz.prog W = .ok (goInt [x].length) (W.setCells b (off + i) [x]) := fun W hWc hWf ty dc =>
    run_copy_cells W _ _ ty 2 b (off + i) (n + m - i) dc ⟨vb, off, none⟩ m vc [x] Tryz.underlying31 hsz (by simp only [List.length_singleton, Nat.min_def]; split <;> omega)
      (fun j v hj => by
        rw [Addr.add_lit, hWc, hW1, World.cell?_setCells_out b _ _ _ _ (fun h _ => absurd h hne)]
        cases j with
        | zero => rw [hoff]; simpa using hj ▸ hx
        | succ j => simp at hj)
      (fun j hj => by rw [hWc, Nat.add_assoc]; exact hsp1 _ (by simp at hj; omega)) (fun j hj => by rw [hWf, hW1, World.frozen?_setCells, Nat.add_assoc]; exact fz1 _ (by simp at hj; omega)) (by simpa using h1x)
  rw [← hW1] at hcp1
  rw [show n + 1 = n + m by omega, show i + 1 = i + m by omega]
  rw [show w.drew.setCells b (i + m) (cs.drop i) = W1 by rw [hW1, hoff, Nat.zero_add]]
  have key : Calls Tryz.prog 48 #[.slice (some ⟨b, off, none⟩) n c, .int .i64 i, .slice (some ⟨vb, off, none⟩) m vc] w fun e w' => e = .returned (.slice (some ⟨b, off, none⟩) (n + m) c) ∧ w' = W1.setCells b (off + i) [x] := by
    clear hm hoff hx hcs hsp hfz cl1 fz1 hsp1 hroom
    go_enter Tryz.func48, Tryz.ntmps48
    go_wp2_with (simp only [hov])
    go_region_law_o (refine step_copy_runI rfl _ _ 31 31 rfl _ _ (by simp [Act.eval, Act.put]) (by simp [Act.eval, Act.put]) (hcp1 _ _ _) ?_)
    go_wp2_with (at_builtin; refine wpList_copy_runI _ rfl _ _ 31 31 rfl _ _ rfl rfl (hcp2 _ (fun _ => rfl) (fun _ => rfl) _ _) ?_)
    go_ret
    first | exact ⟨rfl, rfl⟩ | exact ⟨rfl, by rw [hW1]⟩
  rw [show i = off + i by omega] at *
  subst hm hoff
  simpa using key
set_option maxHeartbeats 4000000 in
theorem insI_grow (w : World) (b vb c vc i n : Nat) (cs : List Value) (x : Value) (hi : i < n) (hnc : n ≤ c) (hroom : c < n + 1) (hbig : n + 1 ≤ 1073741824) (hcl : cs.length = n)
    (hcs : ∀ j v, cs[j]? = some v → w.cell? ⟨b, j, none⟩ = some v) (hx : w.cell? ⟨vb, 0, none⟩ = some x) (h1x : x.oneCell' = true) (h1c : ∀ v ∈ cs, v.oneCell' = true) :
    Calls Tryz.prog 48 #[.slice (some ⟨b, 0, none⟩) n c, .int .i64 i, .slice (some ⟨vb, 0, none⟩) 1 vc] w fun e w' => e = .returned (.slice (some ⟨w.heap.size, 0, none⟩) (n + 1) (grownCap w (n + 1) c 2)) ∧
      w' = (((w.alloc (.cells ((cs.take i).toArray ++ Builtin.zeroCells (.int .i64 0 : Value).cells (n + 1 - i) ++ Builtin.zeroCells (.int .i64 0 : Value).cells (grownCap w (n + 1) c 2 - (n + 1))) 2)).drew.setCells w.heap.size i [x]).drew).setCells w.heap.size (i + 1) (cs.drop i) := by
  obtain ⟨m, hm⟩ : ∃ m, m = 1 := ⟨1, rfl⟩
  obtain ⟨off, hoff⟩ : ∃ off, off = 0 := ⟨0, rfl⟩
  have mixed : Tryz.prog.follows .mixedOrders = true := mixed
  obtain ⟨i0, hi0, hz0, hzs, hzb⟩ := info_parts insI_info
  have hz1 : ¬ ((m : Int) = 0) := by omega
  have hz2 : ¬ ((i : Int) = (n : Int)) := by omega
  have hz3 : (c : Int) < (n : Int) + (m : Int) := by omega
  have hsz : (Tryz.prog.info? 2).map (·.size) = some 1 := by rw [hi0]; simp [hzs]
  have hbw : b < w.heap.size := block_lt_of_cell (hcs 0 _ (List.getElem?_eq_getElem (by omega)))
  have hvw : vb < w.heap.size := block_lt_of_cell hx
  have hkk : (n : Int) + (m : Int) - (i : Int) = ((n + m - i : Nat) : Int) := by omega
  have hik : i + (n + m - i) = n + m := by omega
  rw [show n + 1 = n + m by omega, show i + 1 = i + m by omega]
  have hold : (Builtin.firstCells i0.size i (.slice (some ⟨b, off, none⟩) i c)).run Tryz.prog w.drew = .ok (cs.take i).toArray w.drew := by
    rw [hzs]
    exact run_firstCells_some w.drew 1 i ⟨b, off, none⟩ i c (cs.take i) (by rw [List.length_take]; omega) (fun j v hj => by
      rw [Addr.add_lit, hoff, Nat.zero_add]
      rw [List.getElem?_take] at hj
      split at hj
      · exact hcs j v hj
      · cases hj)
  have hrz : ∀ ty, (Builtin.append_ #[31, 3] ty #[.slice (some ⟨b, off, none⟩) i c, .int .i64 ((n : Int) + (m : Int) - (i : Int))]).run Tryz.prog w =
      .ok (.slice (some ⟨w.heap.size, 0, none⟩) (n + m) (grownCap w (n + m) c 2)) (w.drew.alloc (.cells ((cs.take i).toArray ++ Builtin.zeroCells (.int .i64 0 : Value).cells (n + m - i) ++ Builtin.zeroCells (.int .i64 0 : Value).cells (grownCap w (n + m) c 2 - (n + m))) 2)) := fun ty => by
    have h := Lib.run_append_grow_zeros w 31 3 ty 2 i0 _ .i64 .i64 Tryz.underlying31 Tryz.underlying3 hi0 hz0 (some ⟨b, off, none⟩) i c (cs.take i) hold (n + m - i) (by omega) (by omega) (by omega) (by omega) (by rw [hzb]; omega) (by rw [hzb, hik]; exact growslice_fits (by omega) (by omega))
    rw [hik] at h
    rw [hkk]
    exact h
  obtain ⟨G, hG⟩ : ∃ G, G = grownCap w (n + m) c 2 := ⟨_, rfl⟩
  obtain ⟨ROW, hROW⟩ : ∃ ROW : Array Value, ROW = (cs.take i).toArray ++ Builtin.zeroCells (.int .i64 0 : Value).cells (n + m - i) ++ Builtin.zeroCells (.int .i64 0 : Value).cells (G - (n + m)) := ⟨_, rfl⟩
  rw [← hG] at hrz ⊢
  rw [← hROW] at hrz ⊢
  have hRl : n + m ≤ ROW.size := by
    rw [hROW]
    simp [Builtin.zeroCells, Value.cells]
    omega
  obtain ⟨W1, hW1⟩ : ∃ W1, W1 = w.drew.alloc (.cells ROW 2) := ⟨_, rfl⟩
  rw [← hW1] at hrz
  have hN : ∀ j, j < n + m → (W1.cell? ⟨w.heap.size, j, none⟩).isSome = true := fun j hj => by
    rw [hW1, World.cell?_alloc_at (w := w.drew) ROW _ w.heap.size j rfl, Array.getElem?_eq_getElem (by omega)]; rfl
  have hNf : ∀ j, W1.frozen? ⟨w.heap.size, j, none⟩ = false := fun j => by rw [hW1]; exact World.frozen?_alloc_at (w := w.drew) ROW _ w.heap.size j rfl
  have hOb : ∀ j v, w.cell? ⟨b, j, none⟩ = some v → W1.cell? ⟨b, j, none⟩ = some v := fun j v h => by rw [hW1, World.cell?_alloc_past (w := w.drew) _ b j hbw]; exact h
  have hOv : w.cell? ⟨vb, 0, none⟩ = some x → W1.cell? ⟨vb, 0, none⟩ = some x := fun h => by rw [hW1, World.cell?_alloc_past (w := w.drew) _ vb 0 hvw]; exact h
  have hcpA : ∀ (W : World), (∀ x, W.cell? x = W1.cell? x) → (∀ x, W.frozen? x = W1.frozen? x) → ∀ ty dc, (Builtin.copy_ #[31, 31] ty #[.slice (some ⟨w.heap.size, i, none⟩) (n + m - i) dc, .slice (some ⟨vb, off, none⟩) m vc]).run Tryz.prog W = .ok (goInt [x].length) (W.setCells w.heap.size i [x]) := fun W hWc hWf ty dc =>
    run_copy_cells W _ _ ty 2 w.heap.size i (n + m - i) dc ⟨vb, off, none⟩ m vc [x] Tryz.underlying31 hsz (by simp only [List.length_singleton, Nat.min_def]; split <;> omega)
      (fun j v hj => by
        rw [Addr.add_lit, hWc]
        cases j with
        | zero => rw [hoff]; simpa using hj ▸ hOv hx
        | succ j => simp at hj)
      (fun j hj => by rw [hWc]; exact hN _ (by simp at hj; omega)) (fun j hj => by rw [hWf]; exact hNf _) (by simpa using h1x)
  have hGn : n + m ≤ G := by rw [hG]; exact grownCap_ge w _ _ _
  have hG63 : G ≤ 9223372036854775807 := by
    have := grownCap_le_maxLen w (n + m) c 2 (by unfold maxLen; omega)
    rw [← hG] at this
    unfold maxLen at this
    omega
  have hGi : ¬ (G = i) := by omega
  have hGim : ¬ (G = i + m) := by omega
  have hci : ¬ (c = i) := by omega
  have hbN : b ≠ w.heap.size := by omega
  have hdl : (cs.drop i).length = n - i := by rw [List.length_drop, hcl]
  have hcpB : ∀ (W : World), (∀ y, W.cell? y = (W1.setCells w.heap.size i [x]).cell? y) → (∀ y, W.frozen? y = (W1.setCells w.heap.size i [x]).frozen? y) → ∀ ty dc sc, (Builtin.copy_ #[31, 31] ty #[.slice (some ⟨w.heap.size, i + m, none⟩) (n + m - (i + m)) dc, .slice (some ⟨b, off + i, none⟩) (n - i) sc]).run Tryz.prog W = .ok (goInt (cs.drop i).length) (W.setCells w.heap.size (i + m) (cs.drop i)) := fun W hWc hWf ty dc sc =>
    run_copy_cells W _ _ ty 2 w.heap.size (i + m) (n + m - (i + m)) dc ⟨b, off + i, none⟩ (n - i) sc (cs.drop i) Tryz.underlying31 hsz (by rw [hdl]; simp only [Nat.min_def]; split <;> omega)
      (fun j v hj => by
        rw [Addr.add_lit, hWc, World.cell?_setCells_out _ _ _ _ _ (fun h _ => absurd h hbN), Nat.add_assoc, hoff, Nat.zero_add]
        exact hOb _ v (hcs (i + j) v (by rwa [List.getElem?_drop] at hj)))
      (fun j hj => by rw [hWc]; exact isSome_setCells _ _ _ _ (fun t ht => hN _ (by simp at ht; omega)) _ (hN _ (by omega)))
      (fun j hj => by rw [hWf, World.frozen?_setCells]; exact hNf _) (fun v hv => h1c v (List.mem_of_mem_drop hv))
  subst hW1
  have hE1 : ∀ x, ((w.alloc (.cells ROW 2)).drew).cell? x = (w.drew.alloc (.cells ROW 2)).cell? x := fun x => rfl
  have hE2 : ∀ x, ((w.alloc (.cells ROW 2)).drew).frozen? x = (w.drew.alloc (.cells ROW 2)).frozen? x := fun x => rfl
  have hF1 : ∀ y, (((w.alloc (.cells ROW 2)).drew.setCells w.heap.size i [x]).drew).cell? y = ((w.drew.alloc (.cells ROW 2)).setCells w.heap.size i [x]).cell? y := fun y => rfl
  have hF2 : ∀ y, (((w.alloc (.cells ROW 2)).drew.setCells w.heap.size i [x]).drew).frozen? y = ((w.drew.alloc (.cells ROW 2)).setCells w.heap.size i [x]).frozen? y := fun y => rfl
  have hw1 : IntKind.i64.wrap ((i : Int) + (m : Int)) = (i : Int) + (m : Int) := by rw [IntKind.wrap_i64]; omega
  have hb1 : (0 : Int) ≤ (i : Int) + (m : Int) := by omega
  have hin : i ≤ n := by omega
  have htn : ((i : Int) + (m : Int)).toNat = i + m := by omega
  have hb3 : (i : Int) ≤ (n : Int) := by omega
  have key : Calls Tryz.prog 48 #[.slice (some ⟨b, off, none⟩) n c, .int .i64 i, .slice (some ⟨vb, off, none⟩) m vc] w fun e w' => e = .returned (.slice (some ⟨w.heap.size, 0, none⟩) (n + m) G) ∧
      w' = (((w.alloc (.cells ROW 2)).drew.setCells w.heap.size i [x]).drew).setCells w.heap.size (i + m) (cs.drop i) := by
    clear hkk hik hold hROW hG hRl hm hoff hroom hx hcs
    go_enter Tryz.func48, Tryz.ntmps48
    go_wp2_with (first
      | (at_builtin; refine Lib.wpList_append_run _ rfl _ _ _ _ rfl _ _ rfl rfl _ _ (hrz _) ?_)
      | (at_builtin; refine wpList_copy_runI _ rfl _ _ 31 31 rfl _ _ rfl rfl (hcpA _ hE1 hE2 _ _) ?_)
      | (at_builtin; refine wpList_copy_runI _ rfl _ _ 31 31 rfl _ _ rfl rfl (hcpB _ (fun _ => rfl) (fun _ => rfl) _ _ _) ?_))
    go_region_law_o (refine step_copy_runI rfl _ _ 31 31 rfl (.slice (some ⟨w.heap.size, i + m, none⟩) (n + m - (i + m)) (G - (i + m))) (.slice (some ⟨b, off + i, none⟩) (n - i) (c - i)) (by simp [Act.eval, Act.put]) (by simp [Act.eval, Act.put]) (hcpB _ hF1 hF2 3 (G - (i + m)) (c - i)) ?_)
    go_wp2
    go_ret
    exact ⟨rfl, rfl⟩
  subst hm hoff
  exact key
theorem insR_info : (Tryz.prog.info? 31).map (fun i => (i.zero, i.size, i.bytes)) = some (some (.slice none 0 0), 1, 24) := by kernel_rfl
theorem insR_over {w : World} {vb b o vc lb cb kA kB : Nat} {tA tB : TypeId} (hne : vb ≠ b) (hsa : w.shape? vb = some (tA, kA)) (hsb : w.shape? b = some (tB, kB)) (hkB : kB ≠ 0) (hfa : w.frozen? ⟨vb, 0, none⟩ = false) (hfe : w.frozen? ⟨vb, kA, none⟩ = false) :
    (callFunc 75 #[.slice (some ⟨vb, 0, none⟩) 1 vc, .slice (some ⟨b, o, none⟩) lb cb]).run Tryz.prog w = .ok (.value (.bool false)) w := by
  rw [run_callFunc_extern Tryz.func75 (by kernel_rfl) (by kernel_rfl) (by kernel_rfl) (e := Extern.SlicesOverlaps.overlaps #[24, 24] #[4]) (by kernel_rfl),
    Lib.run_overlaps_apart w 24 4 31 Tryz.underlying24 1 Tryz.sizeOf31 ⟨vb, 0, none⟩ ⟨b, o, none⟩ 1 vc lb cb hne tA tB kA kB hsa hsb hkB hfa hfe]
  rfl
set_option maxHeartbeats 4000000 in
theorem insR_end (w : World) (b vb c vc n : Nat) (x : Value) (hroom : n + 1 ≤ c) (hc63 : c ≤ 9223372036854775807) (hsp : (w.cell? ⟨b, n, none⟩).isSome = true) (hfz : w.frozen? ⟨b, n, none⟩ = false) (hx : w.cell? ⟨vb, 0, none⟩ = some x) (h1x : x.oneCell' = true) :
    Calls Tryz.prog 46 #[.slice (some ⟨b, 0, none⟩) n c, .int .i64 n, .slice (some ⟨vb, 0, none⟩) 1 vc] w fun e w' => e = .returned (.slice (some ⟨b, 0, none⟩) (n + 1) c) ∧ w' = w.setCells b n [x] := by
  obtain ⟨m, hm⟩ : ∃ m, m = 1 := ⟨1, rfl⟩
  obtain ⟨off, hoff⟩ : ∃ off, off = 0 := ⟨0, rfl⟩
  have hsrc : Src Tryz.prog 1 24 (.slice (some ⟨vb, off, none⟩) m vc) m [x] w := Src.ofSlice w Tryz.underlying24 ⟨vb, off, none⟩ m vc [x] (by simp [hm]) (fun j u hj => by
    rw [Addr.add_lit, hoff]
    cases j with
    | zero => simpa using hj ▸ hx
    | succ j => simp at hj) (by simpa using h1x)
  have mixed : Tryz.prog.follows .mixedOrders = true := mixed
  have hz1 : ¬ ((m : Int) = 0) := by omega
  have hr2 : n + m ≤ c := by omega
  have hs2 : ∀ j, j < [x].length → (w.cell? ⟨b, off + n + j, none⟩).isSome = true := fun j hj => by
    have : j = 0 := by simpa using hj
    subst this; simpa [hoff] using hsp
  have hf2 : ∀ j, j < [x].length → w.frozen? ⟨b, off + n + j, none⟩ = false := fun j hj => by
    have : j = 0 := by simpa using hj
    subst this; simpa [hoff] using hfz
  rw [show n + 1 = n + m by omega]
  rw [show w.setCells b n [x] = w.setCells b (off + n) [x] by rw [hoff, Nat.zero_add]]
  have key : Calls Tryz.prog 46 #[.slice (some ⟨b, off, none⟩) n c, .int .i64 n, .slice (some ⟨vb, off, none⟩) m vc] w fun e w' => e = .returned (.slice (some ⟨b, off, none⟩) (n + m) c) ∧ w' = w.setCells b (off + n) [x] := by
    clear hm hoff hsp hfz hx hroom
    go_enter Tryz.func46, Tryz.ntmps46
    go_wp2_with (at_builtin; refine wpList_append_room1 _ rfl _ _ 24 24 rfl 31 _ _ Tryz.underlying24 insR_info b off n c rfl _ rfl m [x] hsrc hr2 hs2 hf2 ?_)
    go_ret
    exact ⟨rfl, rfl⟩
  subst hm hoff
  exact key
set_option maxHeartbeats 4000000 in
theorem insR_endg (w : World) (base : Option Addr) (vb c vc n : Nat) (cs : List Value) (x : Value) (hnc : n ≤ c) (hroom : c < n + 1) (hbig : n + 1 ≤ 1073741824) (hcl : cs.length = n) (hnil : base = none → n = 0)
    (hcs : ∀ a, base = some a → ∀ j v, cs[j]? = some v → w.cell? (a.add j) = some v) (hx : w.cell? ⟨vb, 0, none⟩ = some x) (h1x : x.oneCell' = true) :
    Calls Tryz.prog 46 #[.slice base n c, .int .i64 n, .slice (some ⟨vb, 0, none⟩) 1 vc] w fun e w' => e = .returned (.slice (some ⟨w.heap.size, 0, none⟩) (n + 1) (grownCap w (n + 1) c 31)) ∧
      w' = w.drew.alloc (.cells ((cs ++ [x]).toArray ++ Builtin.zeroCells (.slice none 0 0 : Value).cells (grownCap w (n + 1) c 31 - (n + 1))) 31) := by
  obtain ⟨m, hm⟩ : ∃ m, m = 1 := ⟨1, rfl⟩
  obtain ⟨off, hoff⟩ : ∃ off, off = 0 := ⟨0, rfl⟩
  obtain ⟨i0, hi0, hz0, hzs, hzb⟩ := info_parts insR_info
  have hsrc : Src Tryz.prog i0.size 24 (.slice (some ⟨vb, off, none⟩) m vc) m [x] w := by
    rw [hzs]
    exact Src.ofSlice w Tryz.underlying24 ⟨vb, off, none⟩ m vc [x] (by simp [hm]) (fun j u hj => by
      rw [Addr.add_lit, hoff]
      cases j with
      | zero => simpa using hj ▸ hx
      | succ j => simp at hj) (by simpa using h1x)
  have mixed : Tryz.prog.follows .mixedOrders = true := mixed
  have hz1 : ¬ ((m : Int) = 0) := by omega
  rw [show n + 1 = n + m by omega]
  have hold : (Builtin.firstCells i0.size n (.slice base n c)).run Tryz.prog w.drew = .ok cs.toArray w.drew := by
    rw [hzs]
    cases base with
    | none =>
      have h0 := hnil rfl
      subst h0
      rw [List.length_eq_zero_iff.1 hcl]
      exact run_firstCells_none w.drew 1 0 0 c
    | some a => exact run_firstCells_some w.drew 1 n a n c cs (by omega) (fun j v hj => hcs a rfl j v hj)
  have hrun : ∀ ty, (Builtin.append_ #[24, 24] ty #[.slice base n c, .slice (some ⟨vb, off, none⟩) m vc]).run Tryz.prog w = _ := fun ty =>
    run_append_grow_src w 24 24 ty 31 i0 _ Tryz.underlying24 hi0 hz0 base n c cs hold _ m [x] hsrc (by omega) (by omega) (by rw [hzb]; exact growslice_fits (by omega) (by omega))
  have key : Calls Tryz.prog 46 #[.slice base n c, .int .i64 n, .slice (some ⟨vb, off, none⟩) m vc] w fun e w' => e = .returned (.slice (some ⟨w.heap.size, 0, none⟩) (n + m) (grownCap w (n + m) c 31)) ∧
      w' = w.drew.alloc (.cells ((cs ++ [x]).toArray ++ Builtin.zeroCells (.slice none 0 0 : Value).cells (grownCap w (n + m) c 31 - (n + m))) 31) := by
    have hc63 : c ≤ 9223372036854775807 := by omega
    clear hm hoff hx
    go_enter Tryz.func46, Tryz.ntmps46
    cases base with
    | none =>
      have h0 := hnil rfl
      subst h0
      go_wp2_with (at_builtin; refine Lib.wpList_append_run _ rfl _ _ _ _ rfl _ _ rfl rfl _ _ (hrun _) ?_)
      go_ret
      exact ⟨rfl, rfl⟩
    | some a =>
      go_wp2_with (at_builtin; refine Lib.wpList_append_run _ rfl _ _ _ _ rfl _ _ rfl rfl _ _ (hrun _) ?_)
      go_ret
      exact ⟨rfl, rfl⟩
  subst hm hoff
  exact key
set_option maxHeartbeats 4000000 in
theorem insR_shift (w : World) (b vb c vc i n kA kB : Nat) (tA tB : TypeId) (cs : List Value) (x : Value) (hi : i < n) (hroom : n + 1 ≤ c) (hc63 : c ≤ 9223372036854775807) (hne : vb ≠ b) (hcl : cs.length = n)
    (hcs : ∀ j v, cs[j]? = some v → w.cell? ⟨b, j, none⟩ = some v) (hsp : ∀ j, j < n + 1 → (w.cell? ⟨b, j, none⟩).isSome = true) (hfz : ∀ j, j < n + 1 → w.frozen? ⟨b, j, none⟩ = false)
    (hx : w.cell? ⟨vb, 0, none⟩ = some x) (h1x : x.oneCell' = true) (h1c : ∀ v ∈ cs, v.oneCell' = true)
    (hsa : w.shape? vb = some (tA, kA)) (hsb : w.shape? b = some (tB, kB)) (hkB : kB ≠ 0) (hfa : w.frozen? ⟨vb, 0, none⟩ = false) (hfe : w.frozen? ⟨vb, kA, none⟩ = false) :
    Calls Tryz.prog 46 #[.slice (some ⟨b, 0, none⟩) n c, .int .i64 i, .slice (some ⟨vb, 0, none⟩) 1 vc] w fun e w' => e = .returned (.slice (some ⟨b, 0, none⟩) (n + 1) c) ∧ w' = (w.drew.setCells b (i + 1) (cs.drop i)).setCells b i [x] := by
  obtain ⟨m, hm⟩ : ∃ m, m = 1 := ⟨1, rfl⟩
  obtain ⟨off, hoff⟩ : ∃ off, off = 0 := ⟨0, rfl⟩
  have mixed : Tryz.prog.follows .mixedOrders = true := mixed
  have hov : ∀ lb cb, (callFunc 75 #[.slice (some ⟨vb, off, none⟩) m vc, .slice (some ⟨b, off + (i + m), none⟩) lb cb]).run Tryz.prog w = .ok (.value (.bool false)) w := fun lb cb => by
    rw [hm, hoff]; exact insR_over hne hsa hsb hkB hfa hfe
  have hsz : (Tryz.prog.info? 31).map (·.size) = some 1 := by
    obtain ⟨i0, hi0, h0, h1, h2⟩ := info_parts insR_info
    rw [hi0]; simp [h1]
  have hdl : (cs.drop i).length = n - i := by rw [List.length_drop, hcl]
  have hz1 : ¬ ((m : Int) = 0) := by omega
  have hz2 : ¬ ((i : Int) = (n : Int)) := by omega
  have hr2 : n + m ≤ c := by omega
  have hw1 : IntKind.i64.wrap ((i : Int) + (m : Int)) = (i : Int) + (m : Int) := by rw [IntKind.wrap_i64]; omega
  have hb1 : (0 : Int) ≤ (i : Int) + (m : Int) := by omega
  have hin : i ≤ n := by omega
  have htn : ((i : Int) + (m : Int)).toNat = i + m := by omega
  have hb2 : ¬ (c = i + m) := by omega
  have hb3 : (i : Int) ≤ (n : Int) + (m : Int) := by omega
  have hb4 : ¬ (c = i) := by omega
  have cl1 : ∀ j, j < n + m → (w.cell? ⟨b, off + j, none⟩).isSome = true := fun j hj => by rw [hoff, Nat.zero_add]; exact hsp j (by omega)
  have fz1 : ∀ j, j < n + m → w.frozen? ⟨b, off + j, none⟩ = false := fun j hj => by rw [hoff, Nat.zero_add]; exact hfz j (by omega)
  have hcp1 : ∀ ty dc sc, (Builtin.copy_ #[24, 24] ty #[.slice (some ⟨b, off + (i + m), none⟩) (n + m - (i + m)) dc, .slice (some ⟨b, off + i, none⟩) (n + m - i) sc]).run Tryz.prog w.drew = .ok (goInt (cs.drop i).length) (w.drew.setCells b (off + (i + m)) (cs.drop i)) := fun ty dc sc =>
    run_copy_cells w.drew _ _ ty 31 b (off + (i + m)) (n + m - (i + m)) dc ⟨b, off + i, none⟩ (n + m - i) sc (cs.drop i) Tryz.underlying24 hsz (by rw [hdl]; simp only [Nat.min_def]; split <;> omega)
      (fun j v hj => by rw [Addr.add_lit, Nat.add_assoc, hoff, Nat.zero_add]; exact hcs (i + j) v (by rwa [List.getElem?_drop] at hj))
      (fun j hj => by rw [Nat.add_assoc]; exact cl1 _ (by omega)) (fun j hj => by rw [Nat.add_assoc]; exact fz1 _ (by omega)) (fun v hv => h1c v (List.mem_of_mem_drop hv))
  obtain ⟨W1, hW1⟩ : ∃ W1, W1 = w.drew.setCells b (off + (i + m)) (cs.drop i) := ⟨_, rfl⟩
  have hsp1 : ∀ k, k < n + m → (W1.cell? ⟨b, off + k, none⟩).isSome = true := fun k hk => by
    rw [hW1]
    exact isSome_setCells b _ _ _ (fun j hj => by rw [Nat.add_assoc]; exact cl1 _ (by omega)) _ (cl1 k hk)
  have hcp2 : ∀ (W : World), (∀ x, W.cell? x = W1.cell? x) → (∀ x, W.frozen? x = W1.frozen? x) → ∀ ty dc, (Builtin.copy_ #[24, 24] ty #[.slice (some ⟨b, off + i, none⟩) (n + m - i) dc, .slice (some ⟨vb, off, none⟩) m vc]).run Tryz.prog W = .ok (goInt [x].length) (W.setCells b (off + i) [x]) := fun W hWc hWf ty dc =>
    run_copy_cells W _ _ ty 31 b (off + i) (n + m - i) dc ⟨vb, off, none⟩ m vc [x] Tryz.underlying24 hsz (by simp only [List.length_singleton, Nat.min_def]; split <;> omega)
      (fun j v hj => by
        rw [Addr.add_lit, hWc, hW1, World.cell?_setCells_out b _ _ _ _ (fun h _ => absurd h hne)]
        cases j with
        | zero => rw [hoff]; simpa using hj ▸ hx
        | succ j => simp at hj)
      (fun j hj => by rw [hWc, Nat.add_assoc]; exact hsp1 _ (by simp at hj; omega)) (fun j hj => by rw [hWf, hW1, World.frozen?_setCells, Nat.add_assoc]; exact fz1 _ (by simp at hj; omega)) (by simpa using h1x)
  rw [← hW1] at hcp1
  rw [show n + 1 = n + m by omega, show i + 1 = i + m by omega]
  rw [show w.drew.setCells b (i + m) (cs.drop i) = W1 by rw [hW1, hoff, Nat.zero_add]]
  have key : Calls Tryz.prog 46 #[.slice (some ⟨b, off, none⟩) n c, .int .i64 i, .slice (some ⟨vb, off, none⟩) m vc] w fun e w' => e = .returned (.slice (some ⟨b, off, none⟩) (n + m) c) ∧ w' = W1.setCells b (off + i) [x] := by
    clear hm hoff hx hcs hsp hfz cl1 fz1 hsp1 hroom
    go_enter Tryz.func46, Tryz.ntmps46
    go_wp2_with (simp only [hov])
    go_region_law_o (refine step_copy_runI rfl _ _ 24 24 rfl _ _ (by simp [Act.eval, Act.put]) (by simp [Act.eval, Act.put]) (hcp1 _ _ _) ?_)
    go_wp2_with (at_builtin; refine wpList_copy_runI _ rfl _ _ 24 24 rfl _ _ rfl rfl (hcp2 _ (fun _ => rfl) (fun _ => rfl) _ _) ?_)
    go_ret
    first | exact ⟨rfl, rfl⟩ | exact ⟨rfl, by rw [hW1]⟩
  rw [show i = off + i by omega] at *
  subst hm hoff
  simpa using key
set_option maxHeartbeats 4000000 in
theorem insR_grow (w : World) (b vb c vc i n : Nat) (cs : List Value) (x : Value) (hi : i < n) (hnc : n ≤ c) (hroom : c < n + 1) (hbig : n + 1 ≤ 1073741824) (hcl : cs.length = n)
    (hcs : ∀ j v, cs[j]? = some v → w.cell? ⟨b, j, none⟩ = some v) (hx : w.cell? ⟨vb, 0, none⟩ = some x) (h1x : x.oneCell' = true) (h1c : ∀ v ∈ cs, v.oneCell' = true) :
    Calls Tryz.prog 46 #[.slice (some ⟨b, 0, none⟩) n c, .int .i64 i, .slice (some ⟨vb, 0, none⟩) 1 vc] w fun e w' => e = .returned (.slice (some ⟨w.heap.size, 0, none⟩) (n + 1) (grownCap w (n + 1) c 31)) ∧
      w' = (((w.alloc (.cells ((cs.take i).toArray ++ Builtin.zeroCells (.slice none 0 0 : Value).cells (n + 1 - i) ++ Builtin.zeroCells (.slice none 0 0 : Value).cells (grownCap w (n + 1) c 31 - (n + 1))) 31)).drew.setCells w.heap.size i [x]).drew).setCells w.heap.size (i + 1) (cs.drop i) := by
  obtain ⟨m, hm⟩ : ∃ m, m = 1 := ⟨1, rfl⟩
  obtain ⟨off, hoff⟩ : ∃ off, off = 0 := ⟨0, rfl⟩
  have mixed : Tryz.prog.follows .mixedOrders = true := mixed
  obtain ⟨i0, hi0, hz0, hzs, hzb⟩ := info_parts insR_info
  have hz1 : ¬ ((m : Int) = 0) := by omega
  have hz2 : ¬ ((i : Int) = (n : Int)) := by omega
  have hz3 : (c : Int) < (n : Int) + (m : Int) := by omega
  have hsz : (Tryz.prog.info? 31).map (·.size) = some 1 := by rw [hi0]; simp [hzs]
  have hbw : b < w.heap.size := block_lt_of_cell (hcs 0 _ (List.getElem?_eq_getElem (by omega)))
  have hvw : vb < w.heap.size := block_lt_of_cell hx
  have hkk : (n : Int) + (m : Int) - (i : Int) = ((n + m - i : Nat) : Int) := by omega
  have hik : i + (n + m - i) = n + m := by omega
  rw [show n + 1 = n + m by omega, show i + 1 = i + m by omega]
  have hold : (Builtin.firstCells i0.size i (.slice (some ⟨b, off, none⟩) i c)).run Tryz.prog w.drew = .ok (cs.take i).toArray w.drew := by
    rw [hzs]
    exact run_firstCells_some w.drew 1 i ⟨b, off, none⟩ i c (cs.take i) (by rw [List.length_take]; omega) (fun j v hj => by
      rw [Addr.add_lit, hoff, Nat.zero_add]
      rw [List.getElem?_take] at hj
      split at hj
      · exact hcs j v hj
      · cases hj)
  have hrz : ∀ ty, (Builtin.append_ #[24, 3] ty #[.slice (some ⟨b, off, none⟩) i c, .int .i64 ((n : Int) + (m : Int) - (i : Int))]).run Tryz.prog w =
      .ok (.slice (some ⟨w.heap.size, 0, none⟩) (n + m) (grownCap w (n + m) c 31)) (w.drew.alloc (.cells ((cs.take i).toArray ++ Builtin.zeroCells (.slice none 0 0 : Value).cells (n + m - i) ++ Builtin.zeroCells (.slice none 0 0 : Value).cells (grownCap w (n + m) c 31 - (n + m))) 31)) := fun ty => by
    have h := Lib.run_append_grow_zeros w 24 3 ty 31 i0 _ .i64 .i64 Tryz.underlying24 Tryz.underlying3 hi0 hz0 (some ⟨b, off, none⟩) i c (cs.take i) hold (n + m - i) (by omega) (by omega) (by omega) (by omega) (by rw [hzb]; omega) (by rw [hzb, hik]; exact growslice_fits (by omega) (by omega))
    rw [hik] at h
    rw [hkk]
    exact h
  obtain ⟨G, hG⟩ : ∃ G, G = grownCap w (n + m) c 31 := ⟨_, rfl⟩
  obtain ⟨ROW, hROW⟩ : ∃ ROW : Array Value, ROW = (cs.take i).toArray ++ Builtin.zeroCells (.slice none 0 0 : Value).cells (n + m - i) ++ Builtin.zeroCells (.slice none 0 0 : Value).cells (G - (n + m)) := ⟨_, rfl⟩
  rw [← hG] at hrz ⊢
  rw [← hROW] at hrz ⊢
  have hRl : n + m ≤ ROW.size := by
    rw [hROW]
    simp [Builtin.zeroCells, Value.cells]
    omega
  obtain ⟨W1, hW1⟩ : ∃ W1, W1 = w.drew.alloc (.cells ROW 31) := ⟨_, rfl⟩
  rw [← hW1] at hrz
  have hN : ∀ j, j < n + m → (W1.cell? ⟨w.heap.size, j, none⟩).isSome = true := fun j hj => by
    rw [hW1, World.cell?_alloc_at (w := w.drew) ROW _ w.heap.size j rfl, Array.getElem?_eq_getElem (by omega)]; rfl
  have hNf : ∀ j, W1.frozen? ⟨w.heap.size, j, none⟩ = false := fun j => by rw [hW1]; exact World.frozen?_alloc_at (w := w.drew) ROW _ w.heap.size j rfl
  have hOb : ∀ j v, w.cell? ⟨b, j, none⟩ = some v → W1.cell? ⟨b, j, none⟩ = some v := fun j v h => by rw [hW1, World.cell?_alloc_past (w := w.drew) _ b j hbw]; exact h
  have hOv : w.cell? ⟨vb, 0, none⟩ = some x → W1.cell? ⟨vb, 0, none⟩ = some x := fun h => by rw [hW1, World.cell?_alloc_past (w := w.drew) _ vb 0 hvw]; exact h
  have hcpA : ∀ (W : World), (∀ x, W.cell? x = W1.cell? x) → (∀ x, W.frozen? x = W1.frozen? x) → ∀ ty dc, (Builtin.copy_ #[24, 24] ty #[.slice (some ⟨w.heap.size, i, none⟩) (n + m - i) dc, .slice (some ⟨vb, off, none⟩) m vc]).run Tryz.prog W = .ok (goInt [x].length) (W.setCells w.heap.size i [x]) := fun W hWc hWf ty dc =>
    run_copy_cells W _ _ ty 31 w.heap.size i (n + m - i) dc ⟨vb, off, none⟩ m vc [x] Tryz.underlying24 hsz (by simp only [List.length_singleton, Nat.min_def]; split <;> omega)
      (fun j v hj => by
        rw [Addr.add_lit, hWc]
        cases j with
        | zero => rw [hoff]; simpa using hj ▸ hOv hx
        | succ j => simp at hj)
      (fun j hj => by rw [hWc]; exact hN _ (by simp at hj; omega)) (fun j hj => by rw [hWf]; exact hNf _) (by simpa using h1x)
  have hGn : n + m ≤ G := by rw [hG]; exact grownCap_ge w _ _ _
  have hG63 : G ≤ 9223372036854775807 := by
    have := grownCap_le_maxLen w (n + m) c 31 (by unfold maxLen; omega)
    rw [← hG] at this
    unfold maxLen at this
    omega
  have hGi : ¬ (G = i) := by omega
  have hGim : ¬ (G = i + m) := by omega
  have hci : ¬ (c = i) := by omega
  have hbN : b ≠ w.heap.size := by omega
  have hdl : (cs.drop i).length = n - i := by rw [List.length_drop, hcl]
  have hcpB : ∀ (W : World), (∀ y, W.cell? y = (W1.setCells w.heap.size i [x]).cell? y) → (∀ y, W.frozen? y = (W1.setCells w.heap.size i [x]).frozen? y) → ∀ ty dc sc, (Builtin.copy_ #[24, 24] ty #[.slice (some ⟨w.heap.size, i + m, none⟩) (n + m - (i + m)) dc, .slice (some ⟨b, off + i, none⟩) (n - i) sc]).run Tryz.prog W = .ok (goInt (cs.drop i).length) (W.setCells w.heap.size (i + m) (cs.drop i)) := fun W hWc hWf ty dc sc =>
    run_copy_cells W _ _ ty 31 w.heap.size (i + m) (n + m - (i + m)) dc ⟨b, off + i, none⟩ (n - i) sc (cs.drop i) Tryz.underlying24 hsz (by rw [hdl]; simp only [Nat.min_def]; split <;> omega)
      (fun j v hj => by
        rw [Addr.add_lit, hWc, World.cell?_setCells_out _ _ _ _ _ (fun h _ => absurd h hbN), Nat.add_assoc, hoff, Nat.zero_add]
        exact hOb _ v (hcs (i + j) v (by rwa [List.getElem?_drop] at hj)))
      (fun j hj => by rw [hWc]; exact isSome_setCells _ _ _ _ (fun t ht => hN _ (by simp at ht; omega)) _ (hN _ (by omega)))
      (fun j hj => by rw [hWf, World.frozen?_setCells]; exact hNf _) (fun v hv => h1c v (List.mem_of_mem_drop hv))
  subst hW1
  have hE1 : ∀ x, ((w.alloc (.cells ROW 31)).drew).cell? x = (w.drew.alloc (.cells ROW 31)).cell? x := fun x => rfl
  have hE2 : ∀ x, ((w.alloc (.cells ROW 31)).drew).frozen? x = (w.drew.alloc (.cells ROW 31)).frozen? x := fun x => rfl
  have hF1 : ∀ y, (((w.alloc (.cells ROW 31)).drew.setCells w.heap.size i [x]).drew).cell? y = ((w.drew.alloc (.cells ROW 31)).setCells w.heap.size i [x]).cell? y := fun y => rfl
  have hF2 : ∀ y, (((w.alloc (.cells ROW 31)).drew.setCells w.heap.size i [x]).drew).frozen? y = ((w.drew.alloc (.cells ROW 31)).setCells w.heap.size i [x]).frozen? y := fun y => rfl
  have hw1 : IntKind.i64.wrap ((i : Int) + (m : Int)) = (i : Int) + (m : Int) := by rw [IntKind.wrap_i64]; omega
  have hb1 : (0 : Int) ≤ (i : Int) + (m : Int) := by omega
  have hin : i ≤ n := by omega
  have htn : ((i : Int) + (m : Int)).toNat = i + m := by omega
  have hb3 : (i : Int) ≤ (n : Int) := by omega
  have key : Calls Tryz.prog 46 #[.slice (some ⟨b, off, none⟩) n c, .int .i64 i, .slice (some ⟨vb, off, none⟩) m vc] w fun e w' => e = .returned (.slice (some ⟨w.heap.size, 0, none⟩) (n + m) G) ∧
      w' = (((w.alloc (.cells ROW 31)).drew.setCells w.heap.size i [x]).drew).setCells w.heap.size (i + m) (cs.drop i) := by
    clear hkk hik hold hROW hG hRl hm hoff hroom hx hcs
    go_enter Tryz.func46, Tryz.ntmps46
    go_wp2_with (first
      | (at_builtin; refine Lib.wpList_append_run _ rfl _ _ _ _ rfl _ _ rfl rfl _ _ (hrz _) ?_)
      | (at_builtin; refine wpList_copy_runI _ rfl _ _ 24 24 rfl _ _ rfl rfl (hcpA _ hE1 hE2 _ _) ?_)
      | (at_builtin; refine wpList_copy_runI _ rfl _ _ 24 24 rfl _ _ rfl rfl (hcpB _ (fun _ => rfl) (fun _ => rfl) _ _ _) ?_))
    go_region_law_o (refine step_copy_runI rfl _ _ 24 24 rfl (.slice (some ⟨w.heap.size, i + m, none⟩) (n + m - (i + m)) (G - (i + m))) (.slice (some ⟨b, off + i, none⟩) (n - i) (c - i)) (by simp [Act.eval, Act.put]) (by simp [Act.eval, Act.put]) (hcpB _ hF1 hF2 3 (G - (i + m)) (c - i)) ?_)
    go_wp2
    go_ret
    exact ⟨rfl, rfl⟩
  subst hm hoff
  exact key
end Go.Vc


set_option linter.unusedVariables false
set_option linter.unusedSimpArgs false
set_option linter.unnecessarySimpa false
namespace Go.Vc
open Go.Proofs Go.Shelf Go.RowKit Go.Lib Go.Sort
set_option maxRecDepth 1000000
theorem arr_app (a b : Array Value) (p : Nat) : (a ++ b).toList.getD p Go.undef = (a.toList ++ b.toList).getD p Go.undef := by rw [Array.toList_append]
theorem List.getD_append_left' {a b : List Value} {p : Nat} {d : Value} (h : p < a.length) : (a ++ b).getD p d = a.getD p d := by
  simp only [List.getD_eq_getElem?_getD, List.getElem?_append_left h]
theorem ins_last {l : List Value} {x : Value} {n p : Nat} (hl : l.length = n) (hp : p < n + 1) : (l ++ [x]).getD p Go.undef = if p < n then l.getD p Go.undef else x := by
  simp only [List.getD_eq_getElem?_getD, List.getElem?_append, hl]
  split
  · rfl
  · rw [show p - n = 0 by omega]; rfl
theorem ins_put {w : World} {b c n i : Nat} {cs cs' : Array Value} {e : El} {old : Nat → Value} {x : Value} (hb : w.heap[b]? = some (celO cs e)) (hcs : cs.size = c) (hr : n + 1 ≤ c) (hm : c ≤ maxLen) (_ : i ≤ i)
    (hg : ∀ p, p < n + 1 → cs'.toList.getD p Go.undef = if p < i then old p else if p = i then x else old (p - 1)) (hs : cs'.size = cs.size) : InsOut w (w.setRow b cs') b c n i old x := by
  have hlt : b < w.heap.size := (Array.getElem?_eq_some_iff.1 hb).1
  exact ⟨by simpa using hlt, hr, hm, ⟨cs', e, heap_setRow hb hs, by omega, hg⟩, fun c hc _ => heap_setRow_other _ hc, by simp, ⟨rfl, rfl, rfl⟩⟩
theorem ins_put2 {w : World} {b c n i : Nat} {cs cs1 cs' : Array Value} {e : El} {old : Nat → Value} {x : Value} (hb : w.drew.heap[b]? = some (celO cs e)) (hh : (w.drew.setRow b cs1).heap[b]? = some (celO cs1 e)) (_ : 0 ≤ 0) (hs1 : cs1.size = cs.size) (hcs : cs.size = c) (hr : n + 1 ≤ c) (hm : c ≤ maxLen)
    (hg : ∀ p, p < n + 1 → cs'.toList.getD p Go.undef = if p < i then old p else if p = i then x else old (p - 1)) (hs : cs'.size = cs1.size) : InsOut w ((w.drew.setRow b cs1).setRow b cs') b c n i old x := by
  have hlt : b < w.heap.size := (Array.getElem?_eq_some_iff.1 hb).1
  exact ⟨by simpa using hlt, hr, hm, ⟨cs', e, heap_setRow hh hs, by omega, hg⟩, fun c hc _ => by rw [heap_setRow_other _ hc, heap_setRow_other _ hc]; rfl, by simp, ⟨rfl, rfl, rfl⟩⟩
theorem ins_new {w w0 : World} {G n i : Nat} {R : Array Value} {E : TypeId} {old : Nat → Value} {x : Value} (h0 : w0.heap = w.heap) (_ : 0 = 0) (hge : n + 1 ≤ G) (hle : G ≤ maxLen) (hs : R.size = G)
    (hg : ∀ p, p < n + 1 → R.toList.getD p Go.undef = if p < i then old p else if p = i then x else old (p - 1)) (hso : SameOut w (w0.alloc (.cells R E))) : InsOut w (w0.alloc (.cells R E)) w.heap.size G n i old x := by
  have hnew := new_cel w0 R E
  rw [h0] at hnew
  exact ⟨by simp [h0], hge, hle, ⟨R, (E, false), hnew, hs, hg⟩, fun c hc hcl => by rw [Go.Vc.old w0 _ c (by rw [h0]; exact hcl), h0], by simp [h0], hso⟩
theorem ins_grown {w : World} {G n i : Nat} {R cs1 cs' : Array Value} {E : TypeId} {old : Nat → Value} {x : Value} (hw0 : ((w.alloc (.cells R E)).drew).heap[w.heap.size]? = some (celO R (E, false)))
    (hh1 : (((w.alloc (.cells R E)).drew.setRow w.heap.size cs1).drew).heap[w.heap.size]? = some (celO cs1 (E, false))) (_ : 0 ≤ 0) (hs1 : cs1.size = G) (hge : n + 1 ≤ G) (hle : G ≤ maxLen)
    (hg : ∀ p, p < n + 1 → cs'.toList.getD p Go.undef = if p < i then old p else if p = i then x else old (p - 1)) (hs : cs'.size = cs1.size) :
    InsOut w ((((w.alloc (.cells R E)).drew.setRow w.heap.size cs1).drew).setRow w.heap.size cs') w.heap.size G n i old x := by
  refine ⟨by simp, hge, hle, ⟨cs', (E, false), heap_setRow hh1 hs, by omega, hg⟩, fun c hc hcl => ?_, by simp, ⟨rfl, rfl, rfl⟩⟩
  rw [heap_setRow_other _ hc]
  show ((w.alloc (.cells R E)).drew.setRow w.heap.size cs1).heap[c]? = _
  rw [heap_setRow_other _ hc]
  exact Go.Vc.old w _ c hcl
theorem insI_runs : InsRuns Tryz.prog 48 where
  enters := ⟨Tryz.f48, _, Tryz.func48, by decide, rfl⟩
  at_ := by
    intro w b vb c vc i n cs cv e ev x hb hcs hnc hi hbig hmx hne hv hx h1x h1c hn0
    have hmx' : c ≤ 9223372036854775807 := by unfold maxLen at hmx; omega
    have hxc : w.cell? ⟨vb, 0, none⟩ = some x := by simp [World.cell?, hv, hx]
    have hcl : (cs.toList.take n).length = n := by simp; omega
    have hcell : ∀ j v, (cs.toList.take n)[j]? = some v → w.cell? ⟨b, j, none⟩ = some v := by
      intro j v hj
      rw [celO_cell hb]
      rw [List.getElem?_take] at hj
      split at hj
      · simpa using hj
      · cases hj
    have tk : ∀ p, p < n → (cs.toList.take n).getD p Go.undef = cs.toList.getD p Go.undef := by
      intro p hp
      simp only [List.getD_eq_getElem?_getD, List.getElem?_take, if_pos hp]
    by_cases hin : i = n
    · subst hin
      by_cases hroom : i + 1 ≤ c
      · have hsp : (w.cell? ⟨b, i, none⟩).isSome = true := by rw [celO_cell hb]; simp; omega
        have hfz := celO_free hb (o := i) (by omega)
        refine (insI_end w b vb c vc i x hroom hmx' hsp hfz hxc h1x).mono ?_
        rintro e' w' ⟨rfl, rfl⟩
        refine ⟨b, c, rfl, ?_, .inl ⟨rfl, rfl⟩⟩
        rw [setCells_row (P := Tryz.prog) hb (by simpa using h1x) (by simp; omega)]
        exact ins_put hb hcs (by omega) hmx (Nat.le_refl _) (fun p hp => by
          rw [splice_getD _ _ _ _ (by simp; omega)]
          simp only [List.length_singleton]
          by_cases h1 : p < i
          · rw [if_neg (by omega), if_pos h1]
          · rw [if_pos (by omega), if_neg h1, if_pos (by omega), show p - i = 0 by omega]; rfl) (by simp; omega)
      · refine (insI_endg w (some ⟨b, 0, none⟩) vb c vc i (cs.toList.take i) x hnc (by omega) hbig hcl (fun h => by cases h) (fun a ha j v hj => ?_) hxc h1x).mono ?_
        · cases ha
          rw [Addr.add_lit, Nat.zero_add]
          exact hcell j v hj
        · rintro e' w' ⟨rfl, rfl⟩
          have hge := grownCap_ge w (i + 1) c 2
          have hle := grownCap_le_maxLen w (i + 1) c 2 (by unfold maxLen; omega)
          generalize grownCap w (i + 1) c 2 = G at *
          refine ⟨_, G, rfl, ?_, .inr rfl⟩
          refine ins_new (w0 := w.drew) rfl rfl hge hle (by simp [Builtin.zeroCells, Value.cells]; omega) (fun p hp => ?_) ⟨rfl, rfl, rfl⟩
          rw [arr_app, List.getD_append_left' (by simp; omega)]
          rw [List.toList_toArray, ins_last hcl hp]
          split
          · rename_i h1; exact tk p h1
          · rw [if_pos (by omega)]
    · have hlt : i < n := by omega
      by_cases hroom : n + 1 ≤ c
      · have hsp : ∀ j, j < n + 1 → (w.cell? ⟨b, j, none⟩).isSome = true := fun j hj => by rw [celO_cell hb]; simp; omega
        have hfz : ∀ j, j < n + 1 → w.frozen? ⟨b, j, none⟩ = false := fun j hj => celO_free hb (by omega)
        refine (insI_shift w b vb c vc i n cv.size cs.size ev e.1 (cs.toList.take n) x hlt hroom hmx' hne hcl hcell hsp hfz hxc h1x h1c (by simp [World.shape?, hv]) (by simp [World.shape?, hb]) (by omega) (by simp [World.frozen?, hv]) (by simp [World.frozen?, hv])).mono ?_
        rintro e' w' ⟨rfl, rfl⟩
        refine ⟨b, c, rfl, ?_, .inl ⟨rfl, rfl⟩⟩
        have hdl : ((cs.toList.take n).drop i).length = n - i := by rw [List.length_drop, hcl]
        have hb' : w.drew.heap[b]? = some (celO cs e) := hb
        rw [setCells_row (P := Tryz.prog) hb' (fun u hu => h1c u (List.mem_of_mem_drop hu)) (by omega)]
        have hs1 := size_splice (cs := cs) (o := i + 1) (vs := (cs.toList.take n).drop i) (by omega)
        have hh1 := heap_setRow hb' hs1
        rw [setCells_row (P := Tryz.prog) hh1 (by simpa using h1x) (by simp; omega)]
        have hg1 : ∀ p, p < n + 1 → ((cs.toList.take (i + 1) ++ (cs.toList.take n).drop i ++ cs.toList.drop (i + 1 + ((cs.toList.take n).drop i).length)).toArray).toList.getD p Go.undef = if p < i + 1 then cs.toList.getD p Go.undef else cs.toList.getD (p - 1) Go.undef := by
          intro p hp
          rw [List.toList_toArray, splice_getD _ _ _ _ (by simp; omega)]
          by_cases h1 : p < i + 1
          · rw [if_neg (by omega), if_pos h1]
          · rw [if_pos (by omega), if_neg h1]
            rw [← tk (p - 1) (by omega)]
            simp only [List.getD_eq_getElem?_getD, List.getElem?_drop]
            congr 2; omega
        generalize (cs.toList.take (i + 1) ++ (cs.toList.take n).drop i ++ cs.toList.drop (i + 1 + ((cs.toList.take n).drop i).length)).toArray = cs1 at *
        refine ins_put2 hb' hh1 (by omega) hs1 hcs (by omega) hmx (fun p hp => ?_) (by simp; omega)
        rw [splice_getD _ _ _ _ (by simp; omega)]
        simp only [List.length_singleton]
        by_cases h1 : p = i
        · rw [if_pos (by omega), if_neg (by omega), if_pos h1, h1, Nat.sub_self]; rfl
        · rw [if_neg (by omega), hg1 p hp]
          by_cases h2 : p < i
          · rw [if_pos (by omega), if_pos h2]
          · rw [if_neg (by omega), if_neg h2, if_neg h1]
      · refine (insI_grow w b vb c vc i n (cs.toList.take n) x hlt hnc (by omega) hbig hcl hcell hxc h1x h1c).mono ?_
        rintro e' w' ⟨rfl, rfl⟩
        have hge := grownCap_ge w (n + 1) c 2
        have hle := grownCap_le_maxLen w (n + 1) c 2 (by unfold maxLen; omega)
        generalize grownCap w (n + 1) c 2 = G at *
        refine ⟨_, G, rfl, ?_, .inr rfl⟩
        have hdl : ((cs.toList.take n).drop i).length = n - i := by rw [List.length_drop, hcl]
        obtain ⟨R, hR⟩ : ∃ R : Array Value, R = ((cs.toList.take n).take i).toArray ++ Builtin.zeroCells (.int .i64 0 : Value).cells (n + 1 - i) ++ Builtin.zeroCells (.int .i64 0 : Value).cells (G - (n + 1)) := ⟨_, rfl⟩
        have hRs : R.size = G := by rw [hR]; simp [Builtin.zeroCells, Value.cells]; omega
        have hRg : ∀ p, p < i → R.toList.getD p Go.undef = cs.toList.getD p Go.undef := by
          intro p hp
          rw [hR, arr_app, List.getD_append_left' (by simp [Builtin.zeroCells, Value.cells]; omega), arr_app, List.getD_append_left' (by simp; omega), List.toList_toArray]
          simp only [List.getD_eq_getElem?_getD, List.getElem?_take, if_pos hp, if_pos (show p < n by omega)]
        rw [← hR]
        clear hR
        have hw0 : ((w.alloc (.cells R 2)).drew).heap[w.heap.size]? = some (celO R (2, false)) := new_cel w R 2
        rw [setCells_row (P := Tryz.prog) hw0 (by simpa using h1x) (by simp; omega)]
        have hs1 := size_splice (cs := R) (o := i) (vs := [x]) (by simp; omega)
        have hh1 := heap_setRow hw0 hs1
        have hg1 : ∀ p, p < i + 1 → ((R.toList.take i ++ [x] ++ R.toList.drop (i + [x].length)).toArray).toList.getD p Go.undef = if p < i then cs.toList.getD p Go.undef else x := by
          intro p hp
          rw [List.toList_toArray, splice_getD _ _ _ _ (by simp; omega)]
          simp only [List.length_singleton]
          by_cases h1 : p < i
          · rw [if_neg (by omega), if_pos h1, hRg p h1]
          · rw [if_pos (by omega), if_neg h1, show p - i = 0 by omega]; rfl
        generalize (R.toList.take i ++ [x] ++ R.toList.drop (i + [x].length)).toArray = cs1 at *
        have hh1' : (((w.alloc (.cells R 2)).drew.setRow w.heap.size cs1).drew).heap[w.heap.size]? = some (celO cs1 (2, false)) := hh1
        rw [setCells_row (P := Tryz.prog) hh1' (fun u hu => h1c u (List.mem_of_mem_drop hu)) (by omega)]
        refine ins_grown hw0 hh1' (by omega) (hs1.trans hRs) hge hle (fun p hp => ?_) (by simp; omega)
        rw [splice_getD _ _ _ _ (by simp; omega)]
        by_cases h1 : p < i + 1
        · rw [if_neg (by omega), hg1 p h1]
          by_cases h2 : p < i
          · rw [if_pos h2, if_pos h2]
          · rw [if_neg h2, if_neg h2, if_pos (by omega)]
        · rw [if_pos (by omega), if_neg (by omega), if_neg (by omega)]
          rw [← tk (p - 1) (by omega)]
          simp only [List.getD_eq_getElem?_getD, List.getElem?_drop]
          congr 2; omega
  nil_ := by
    intro w ad vb c vc cv ev x hv hx h1x hc
    subst hc
    have hxc : w.cell? ⟨vb, 0, none⟩ = some x := by simp [World.cell?, hv, hx]
    refine (insI_endg w ad vb 0 vc 0 [] x (by omega) (by omega) (by omega) rfl (fun _ => rfl) (fun a ha j v hj => by simp at hj) hxc h1x).mono ?_
    rintro e' w' ⟨rfl, rfl⟩
    have hge := grownCap_ge w (0 + 1) 0 2
    have hle := grownCap_le_maxLen w (0 + 1) 0 2 (by unfold maxLen; omega)
    generalize grownCap w (0 + 1) 0 2 = G at *
    refine ⟨_, G, rfl, ?_, rfl⟩
    refine ins_new (w0 := w.drew) rfl rfl hge hle (by simp [Builtin.zeroCells, Value.cells]; omega) (fun p hp => ?_) ⟨rfl, rfl, rfl⟩
    rw [arr_app, List.getD_append_left' (by simp; omega)]
    have hp0 : p = 0 := by omega
    subst hp0
    simp
  room_ := by
    intro w b vb c vc cs cv e ev x hb hcs hc hmx hne hv hx h1x
    have hmx' : c ≤ 9223372036854775807 := by unfold maxLen at hmx; omega
    have hxc : w.cell? ⟨vb, 0, none⟩ = some x := by simp [World.cell?, hv, hx]
    have hsp : (w.cell? ⟨b, 0, none⟩).isSome = true := by rw [celO_cell hb]; simp; omega
    have hfz := celO_free hb (o := 0) (by omega)
    refine (insI_end w b vb c vc 0 x (by omega) hmx' hsp hfz hxc h1x).mono ?_
    rintro e' w' ⟨rfl, rfl⟩
    refine ⟨b, c, rfl, ?_, ⟨rfl, rfl⟩⟩
    rw [setCells_row (P := Tryz.prog) hb (by simpa using h1x) (by simp; omega)]
    exact ins_put hb hcs (by omega) hmx (Nat.le_refl _) (fun p hp => by
      have hp0 : p = 0 := by omega
      subst hp0
      simp) (by simp; omega)
theorem insR_runs : InsRuns Tryz.prog 46 where
  enters := ⟨Tryz.f46, _, Tryz.func46, by decide, rfl⟩
  at_ := by
    intro w b vb c vc i n cs cv e ev x hb hcs hnc hi hbig hmx hne hv hx h1x h1c hn0
    have hmx' : c ≤ 9223372036854775807 := by unfold maxLen at hmx; omega
    have hxc : w.cell? ⟨vb, 0, none⟩ = some x := by simp [World.cell?, hv, hx]
    have hcl : (cs.toList.take n).length = n := by simp; omega
    have hcell : ∀ j v, (cs.toList.take n)[j]? = some v → w.cell? ⟨b, j, none⟩ = some v := by
      intro j v hj
      rw [celO_cell hb]
      rw [List.getElem?_take] at hj
      split at hj
      · simpa using hj
      · cases hj
    have tk : ∀ p, p < n → (cs.toList.take n).getD p Go.undef = cs.toList.getD p Go.undef := by
      intro p hp
      simp only [List.getD_eq_getElem?_getD, List.getElem?_take, if_pos hp]
    by_cases hin : i = n
    · subst hin
      by_cases hroom : i + 1 ≤ c
      · have hsp : (w.cell? ⟨b, i, none⟩).isSome = true := by rw [celO_cell hb]; simp; omega
        have hfz := celO_free hb (o := i) (by omega)
        refine (insR_end w b vb c vc i x hroom hmx' hsp hfz hxc h1x).mono ?_
        rintro e' w' ⟨rfl, rfl⟩
        refine ⟨b, c, rfl, ?_, .inl ⟨rfl, rfl⟩⟩
        rw [setCells_row (P := Tryz.prog) hb (by simpa using h1x) (by simp; omega)]
        exact ins_put hb hcs (by omega) hmx (Nat.le_refl _) (fun p hp => by
          rw [splice_getD _ _ _ _ (by simp; omega)]
          simp only [List.length_singleton]
          by_cases h1 : p < i
          · rw [if_neg (by omega), if_pos h1]
          · rw [if_pos (by omega), if_neg h1, if_pos (by omega), show p - i = 0 by omega]; rfl) (by simp; omega)
      · refine (insR_endg w (some ⟨b, 0, none⟩) vb c vc i (cs.toList.take i) x hnc (by omega) hbig hcl (fun h => by cases h) (fun a ha j v hj => ?_) hxc h1x).mono ?_
        · cases ha
          rw [Addr.add_lit, Nat.zero_add]
          exact hcell j v hj
        · rintro e' w' ⟨rfl, rfl⟩
          have hge := grownCap_ge w (i + 1) c 31
          have hle := grownCap_le_maxLen w (i + 1) c 31 (by unfold maxLen; omega)
          generalize grownCap w (i + 1) c 31 = G at *
          refine ⟨_, G, rfl, ?_, .inr rfl⟩
          refine ins_new (w0 := w.drew) rfl rfl hge hle (by simp [Builtin.zeroCells, Value.cells]; omega) (fun p hp => ?_) ⟨rfl, rfl, rfl⟩
          rw [arr_app, List.getD_append_left' (by simp; omega)]
          rw [List.toList_toArray, ins_last hcl hp]
          split
          · rename_i h1; exact tk p h1
          · rw [if_pos (by omega)]
    · have hlt : i < n := by omega
      by_cases hroom : n + 1 ≤ c
      · have hsp : ∀ j, j < n + 1 → (w.cell? ⟨b, j, none⟩).isSome = true := fun j hj => by rw [celO_cell hb]; simp; omega
        have hfz : ∀ j, j < n + 1 → w.frozen? ⟨b, j, none⟩ = false := fun j hj => celO_free hb (by omega)
        refine (insR_shift w b vb c vc i n cv.size cs.size ev e.1 (cs.toList.take n) x hlt hroom hmx' hne hcl hcell hsp hfz hxc h1x h1c (by simp [World.shape?, hv]) (by simp [World.shape?, hb]) (by omega) (by simp [World.frozen?, hv]) (by simp [World.frozen?, hv])).mono ?_
        rintro e' w' ⟨rfl, rfl⟩
        refine ⟨b, c, rfl, ?_, .inl ⟨rfl, rfl⟩⟩
        have hdl : ((cs.toList.take n).drop i).length = n - i := by rw [List.length_drop, hcl]
        have hb' : w.drew.heap[b]? = some (celO cs e) := hb
        rw [setCells_row (P := Tryz.prog) hb' (fun u hu => h1c u (List.mem_of_mem_drop hu)) (by omega)]
        have hs1 := size_splice (cs := cs) (o := i + 1) (vs := (cs.toList.take n).drop i) (by omega)
        have hh1 := heap_setRow hb' hs1
        rw [setCells_row (P := Tryz.prog) hh1 (by simpa using h1x) (by simp; omega)]
        have hg1 : ∀ p, p < n + 1 → ((cs.toList.take (i + 1) ++ (cs.toList.take n).drop i ++ cs.toList.drop (i + 1 + ((cs.toList.take n).drop i).length)).toArray).toList.getD p Go.undef = if p < i + 1 then cs.toList.getD p Go.undef else cs.toList.getD (p - 1) Go.undef := by
          intro p hp
          rw [List.toList_toArray, splice_getD _ _ _ _ (by simp; omega)]
          by_cases h1 : p < i + 1
          · rw [if_neg (by omega), if_pos h1]
          · rw [if_pos (by omega), if_neg h1]
            rw [← tk (p - 1) (by omega)]
            simp only [List.getD_eq_getElem?_getD, List.getElem?_drop]
            congr 2; omega
        generalize (cs.toList.take (i + 1) ++ (cs.toList.take n).drop i ++ cs.toList.drop (i + 1 + ((cs.toList.take n).drop i).length)).toArray = cs1 at *
        refine ins_put2 hb' hh1 (by omega) hs1 hcs (by omega) hmx (fun p hp => ?_) (by simp; omega)
        rw [splice_getD _ _ _ _ (by simp; omega)]
        simp only [List.length_singleton]
        by_cases h1 : p = i
        · rw [if_pos (by omega), if_neg (by omega), if_pos h1, h1, Nat.sub_self]; rfl
        · rw [if_neg (by omega), hg1 p hp]
          by_cases h2 : p < i
          · rw [if_pos (by omega), if_pos h2]
          · rw [if_neg (by omega), if_neg h2, if_neg h1]
      · refine (insR_grow w b vb c vc i n (cs.toList.take n) x hlt hnc (by omega) hbig hcl hcell hxc h1x h1c).mono ?_
        rintro e' w' ⟨rfl, rfl⟩
        have hge := grownCap_ge w (n + 1) c 31
        have hle := grownCap_le_maxLen w (n + 1) c 31 (by unfold maxLen; omega)
        generalize grownCap w (n + 1) c 31 = G at *
        refine ⟨_, G, rfl, ?_, .inr rfl⟩
        have hdl : ((cs.toList.take n).drop i).length = n - i := by rw [List.length_drop, hcl]
        obtain ⟨R, hR⟩ : ∃ R : Array Value, R = ((cs.toList.take n).take i).toArray ++ Builtin.zeroCells (.slice none 0 0 : Value).cells (n + 1 - i) ++ Builtin.zeroCells (.slice none 0 0 : Value).cells (G - (n + 1)) := ⟨_, rfl⟩
        have hRs : R.size = G := by rw [hR]; simp [Builtin.zeroCells, Value.cells]; omega
        have hRg : ∀ p, p < i → R.toList.getD p Go.undef = cs.toList.getD p Go.undef := by
          intro p hp
          rw [hR, arr_app, List.getD_append_left' (by simp [Builtin.zeroCells, Value.cells]; omega), arr_app, List.getD_append_left' (by simp; omega), List.toList_toArray]
          simp only [List.getD_eq_getElem?_getD, List.getElem?_take, if_pos hp, if_pos (show p < n by omega)]
        rw [← hR]
        clear hR
        have hw0 : ((w.alloc (.cells R 31)).drew).heap[w.heap.size]? = some (celO R (31, false)) := new_cel w R 31
        rw [setCells_row (P := Tryz.prog) hw0 (by simpa using h1x) (by simp; omega)]
        have hs1 := size_splice (cs := R) (o := i) (vs := [x]) (by simp; omega)
        have hh1 := heap_setRow hw0 hs1
        have hg1 : ∀ p, p < i + 1 → ((R.toList.take i ++ [x] ++ R.toList.drop (i + [x].length)).toArray).toList.getD p Go.undef = if p < i then cs.toList.getD p Go.undef else x := by
          intro p hp
          rw [List.toList_toArray, splice_getD _ _ _ _ (by simp; omega)]
          simp only [List.length_singleton]
          by_cases h1 : p < i
          · rw [if_neg (by omega), if_pos h1, hRg p h1]
          · rw [if_pos (by omega), if_neg h1, show p - i = 0 by omega]; rfl
        generalize (R.toList.take i ++ [x] ++ R.toList.drop (i + [x].length)).toArray = cs1 at *
        have hh1' : (((w.alloc (.cells R 31)).drew.setRow w.heap.size cs1).drew).heap[w.heap.size]? = some (celO cs1 (31, false)) := hh1
        rw [setCells_row (P := Tryz.prog) hh1' (fun u hu => h1c u (List.mem_of_mem_drop hu)) (by omega)]
        refine ins_grown hw0 hh1' (by omega) (hs1.trans hRs) hge hle (fun p hp => ?_) (by simp; omega)
        rw [splice_getD _ _ _ _ (by simp; omega)]
        by_cases h1 : p < i + 1
        · rw [if_neg (by omega), hg1 p h1]
          by_cases h2 : p < i
          · rw [if_pos h2, if_pos h2]
          · rw [if_neg h2, if_neg h2, if_pos (by omega)]
        · rw [if_pos (by omega), if_neg (by omega), if_neg (by omega)]
          rw [← tk (p - 1) (by omega)]
          simp only [List.getD_eq_getElem?_getD, List.getElem?_drop]
          congr 2; omega
  nil_ := by
    intro w ad vb c vc cv ev x hv hx h1x hc
    subst hc
    have hxc : w.cell? ⟨vb, 0, none⟩ = some x := by simp [World.cell?, hv, hx]
    refine (insR_endg w ad vb 0 vc 0 [] x (by omega) (by omega) (by omega) rfl (fun _ => rfl) (fun a ha j v hj => by simp at hj) hxc h1x).mono ?_
    rintro e' w' ⟨rfl, rfl⟩
    have hge := grownCap_ge w (0 + 1) 0 31
    have hle := grownCap_le_maxLen w (0 + 1) 0 31 (by unfold maxLen; omega)
    generalize grownCap w (0 + 1) 0 31 = G at *
    refine ⟨_, G, rfl, ?_, rfl⟩
    refine ins_new (w0 := w.drew) rfl rfl hge hle (by simp [Builtin.zeroCells, Value.cells]; omega) (fun p hp => ?_) ⟨rfl, rfl, rfl⟩
    rw [arr_app, List.getD_append_left' (by simp; omega)]
    have hp0 : p = 0 := by omega
    subst hp0
    simp
  room_ := by
    intro w b vb c vc cs cv e ev x hb hcs hc hmx hne hv hx h1x
    have hmx' : c ≤ 9223372036854775807 := by unfold maxLen at hmx; omega
    have hxc : w.cell? ⟨vb, 0, none⟩ = some x := by simp [World.cell?, hv, hx]
    have hsp : (w.cell? ⟨b, 0, none⟩).isSome = true := by rw [celO_cell hb]; simp; omega
    have hfz := celO_free hb (o := 0) (by omega)
    refine (insR_end w b vb c vc 0 x (by omega) hmx' hsp hfz hxc h1x).mono ?_
    rintro e' w' ⟨rfl, rfl⟩
    refine ⟨b, c, rfl, ?_, ⟨rfl, rfl⟩⟩
    rw [setCells_row (P := Tryz.prog) hb (by simpa using h1x) (by simp; omega)]
    exact ins_put hb hcs (by omega) hmx (Nat.le_refl _) (fun p hp => by
      have hp0 : p = 0 := by omega
      subst hp0
      simp) (by simp; omega)
end Go.Vc


set_option linter.unusedVariables false
set_option linter.unusedSimpArgs false
set_option linter.unnecessarySimpa false
namespace Go.Vc
open Go.Proofs
set_option maxRecDepth 100000
theorem c_szSystem (m : MkM) (l : List (List Int)) (n : Int) (h : l.length ≤ 9223372036854775807) (h2 : ∀ x ∈ l, x.length ≤ 9223372036854775807) (hn : 0 ≤ n ∧ n ≤ 1048576) :
    Fn Tryz.prog 5 [eSy m l, eI n] true (· = eI (if n < l.length + tot l then -1 else n - (l.length + tot l))) := by
  refine Fn.of_vcN 12 [.tmp 4] Tryz.func5 rfl rfl rfl rfl rfl (of_decide_eq_true rfl) ?_
  simp -dsimp -implicitDefEqProofs only [go_sem, ↓reduceIte]
  refine sCallT_one (c_szInt64SS l n h h2 hn) ?_
  by_cases hlt : n < l.length + tot l
  · rw [if_pos hlt]
    simp -dsimp -implicitDefEqProofs only [go_sem, ↓reduceIte]
    repeat' (refine Br.intro (fun _ => ?_) (fun _ => ?_) <;> try simp -dsimp -implicitDefEqProofs only [go_sem, ↓reduceIte, *])
    all_goals simp_all
  · rw [if_neg hlt]
    simp -dsimp -implicitDefEqProofs only [go_sem, ↓reduceIte]
    repeat' (refine Br.intro (fun _ => ?_) (fun _ => ?_) <;> try simp -dsimp -implicitDefEqProofs only [go_sem, ↓reduceIte, *])
    all_goals (simp_all; try omega)
theorem c_toSystem (m : MkM) (l : List (List Int)) (h : l.length ≤ 1048576) (h2 : ∀ x ∈ l, x.length ≤ 1048576) : Fn Tryz.prog 9 [eSy m l] true (· = eSy m l) := by
  refine Fn.of_vcN 13 [.cell 2 36] Tryz.func9 rfl rfl rfl rfl rfl (of_decide_eq_true rfl) ?_
  simp -dsimp -implicitDefEqProofs only [go_sem, ↓reduceIte]
  repeat' first
    | (with_reducible refine And.intro ?_ ?_)
    | (refine sCallT_one (c_toMaker m) ?_; try simp -dsimp -implicitDefEqProofs only [go_sem, ↓reduceIte, *])
    | (refine sCallT_one (c_toInt64SS l h h2) ?_; try simp -dsimp -implicitDefEqProofs only [go_sem, ↓reduceIte, *])
  all_goals first | omega | decide | (simp; done) | trace_state
theorem c_eqSystem (m m' : MkM) (l l' : List (List Int)) (h : l.length ≤ 9223372036854775807) (h2 : ∀ x ∈ l, x.length ≤ 9223372036854775807) : Fn Tryz.prog 15 [eSy m l, eSy m' l'] true (· = eB (decide (m = m' ∧ l = l'))) := by
  refine Fn.of_vcN 17 [.tmp 4] Tryz.func15 rfl rfl rfl rfl rfl (of_decide_eq_true rfl) ?_
  simp -dsimp -implicitDefEqProofs only [go_sem, ↓reduceIte]
  repeat' first
    | (refine Br.intro (fun _ => ?_) (fun _ => ?_) <;> try simp -dsimp -implicitDefEqProofs only [go_sem, ↓reduceIte, *])
    | (refine sCallT_one (c_eqMaker m m') ?_; try simp -dsimp -implicitDefEqProofs only [go_sem, ↓reduceIte, *])
    | (refine sCallT_one (c_eqInt64SS l l' h h2) ?_; try simp -dsimp -implicitDefEqProofs only [go_sem, ↓reduceIte, *])
  all_goals simp_all
theorem c_markSystem (m : MkM) (l : List (List Int)) (k : Int) (v : Nat) (hk : 0 ≤ k ∧ k ≤ 100000000000) (h : l.length ≤ 1000000000) (h2 : (l.map List.length).sum ≤ 1000000000) :
    FnM Tryz.prog 17 [.row v ⟨1, false⟩ true (l.map eIs)] [.agg [eI m.chambers, eI m.depths, eI m.step, eI m.same, eI m.least, .ref 1000000000 v 0 l.length], eI k]
      (fun x io => x = eI (k + (l.map List.length).sum) ∧ io = [.row v ⟨1, false⟩ true ((markLL k (l.map List.length)).map eIs)]) := by
  refine FnM.of_vcN 10 [.tmp 4] Tryz.func17 rfl rfl rfl rfl rfl (of_decide_eq_true rfl) ?_
  simp -dsimp -implicitDefEqProofs only [go_sem, ↓reduceIte]
  repeat' first
    | (with_reducible refine And.intro ?_ ?_)
    | (refine sCallT_io [1000000000] ?_; simp -dsimp -implicitDefEqProofs only [go_sem, ↓reduceIte]; refine sCallM_one (c_markInt64SS l k v hk h h2) ?_; try simp -dsimp -implicitDefEqProofs only [go_sem, ↓reduceIte, *])
  all_goals first | (simp; done) | trace_state
end Go.Vc


set_option linter.unusedVariables false
set_option linter.unusedSimpArgs false
set_option linter.unnecessarySimpa false
namespace Go.Vc
open Go.Proofs
set_option maxRecDepth 100000
attribute [go_sem] Option.map_none Nat.sub_zero
abbrev eY (b : UInt8) : AV := .val (.int .u8 b.toNat)
abbrev eYs (bs : List UInt8) : AV := .arr ⟨1, false⟩ (bs.map eY)
structure Src where
  seed : Int
  pos : Nat
abbrev srcB (v : Nat) (bs : List UInt8) (s : Src) : Blk := .box v [eYs bs, eI s.pos, eI s.seed]
end Go.Vc


set_option linter.unusedVariables false
set_option linter.unusedSimpArgs false
set_option linter.unnecessarySimpa false
namespace Go.Vc
open Go.Proofs
set_option maxRecDepth 100000
end Go.Vc


set_option linter.unusedVariables false
set_option linter.unusedSimpArgs false
set_option linter.unnecessarySimpa false
namespace Go.Vc
open Go.Proofs
set_option maxRecDepth 100000
end Go.Vc


set_option linter.unusedVariables false
set_option linter.unusedSimpArgs false
set_option linter.unnecessarySimpa false
namespace Go.Vc
open Go.Proofs
set_option maxRecDepth 100000
theorem c_l01Same (xs ys : List Int) (h : xs.length ≤ 9223372036854775807) : Fn Tryz.prog 38 [eIs xs, eIs ys] true (· = eB (decide (xs = ys))) := by
  refine Fn.of_vcN 26 [.tmp 4] Tryz.func38 rfl rfl rfl rfl rfl (of_decide_eq_true rfl) ?_
  simp -dsimp -implicitDefEqProofs only [go_sem, ↓reduceIte]
  repeat' (refine Br.intro (fun _ => ?_) (fun _ => ?_) <;> try simp -dsimp -implicitDefEqProofs only [go_sem, ↓reduceIte, *])
  · rw [decide_eq_false]; intro e; subst e; simp_all
  have h1 : xs.length = ys.length := by simp_all <;> omega
  refine Later.up [0, 1] [13] [] xs.length (fun i => xs.take i = ys.take i) (fun i => [(5, eI i)]) (fun _ => []) rfl ?_ rfl (fun i hi hI => ?_) (fun hI => ?_)
  · simp -dsimp -implicitDefEqProofs only [go_sem, ↓reduceIte]
  · simp -dsimp -implicitDefEqProofs only [pick_nil, pick_cons, look_nil, look_cons, dropB_nil, dropB_cons, inD_nil, inD_cons, inE_nil, inE_cons, or_t_l, or_f_l, Nat.reduceBEq, Nat.reduceDiv, Nat.reduceAdd, beq_self_eq_true, uq0, uq1, ↓reduceIte, Nat.reduceEqDiff, uq2, uq3]
    have hy : i < ys.length := by omega
    have no : xs[i] ≠ ys[i] → decide (xs = ys) = false := eq_no hi hy
    have yes : xs[i] = ys[i] → xs.take (i + 1) = ys.take (i + 1) := eq_yes hi hy hI
    simp -dsimp -implicitDefEqProofs only [go_sem, ↓reduceIte, lt_len hi, get_some hi]
    refine Later.draw mixed rfl ?_
    simp -dsimp -implicitDefEqProofs only [go_sem, ↓reduceIte, get_some hi, get_some hy]
    repeat' first
      | (refine Br.intro (fun _ => ?_) (fun _ => ?_) <;> try simp -dsimp -implicitDefEqProofs only [go_sem, ↓reduceIte, *])
      | (with_reducible refine And.intro ?_ ?_)
      | fail
    all_goals first
      | omega
      | (refine ⟨?_, ?_⟩ <;> omega)
      | rfl
      | (simp; done)
      | (rw [no]; clear no yes; simp_all; done)
      | (refine yes ?_; clear no yes; simp_all; done)
  · simp -dsimp -implicitDefEqProofs only [pick_nil, pick_cons, look_nil, look_cons, dropB_nil, dropB_cons, inD_nil, inD_cons, inE_nil, inE_cons, or_t_l, or_f_l, Nat.reduceBEq, Nat.reduceDiv, Nat.reduceAdd, beq_self_eq_true, uq0, uq1, ↓reduceIte, Nat.reduceEqDiff, uq2, uq3]
    simp -dsimp -implicitDefEqProofs only [go_sem, ↓reduceIte, nlt_len]
    have h3 : xs = ys := by rw [← List.take_length (l := xs), hI, h1, List.take_length]
    simp [h3]
def cmpN (x y : Int) : Int := if x < y then -1 else if y < x then 1 else 0
theorem c_isNaN (x : Int) : Fn Tryz.prog 118 [eI x] true (· = eB false) := by
  refine Fn.of_vcN 6 [.tmp 2] Tryz.func118 rfl rfl rfl rfl rfl (of_decide_eq_true rfl) ?_
  have n1 : (x != x) = false := by simp
  simp -dsimp -implicitDefEqProofs only [go_sem, ↓reduceIte, n1]
  ((repeat' (with_reducible refine And.intro ?_ ?_)); all_goals try (first | omega | (refine ⟨?_, ?_⟩ <;> omega) | (exact rfl)))
  all_goals first | (simp; done) | trace_state
theorem c_cmpCompare (x y : Int) : Fn Tryz.prog 96 [eI x, eI y] true (· = eI (cmpN x y)) := by
  refine Fn.of_vcN 20 [.tmp 4] Tryz.func96 rfl rfl rfl rfl rfl (of_decide_eq_true rfl) ?_
  simp -dsimp -implicitDefEqProofs only [go_sem, ↓reduceIte]
  refine sCallT_one (c_isNaN x) ?_
  simp -dsimp -implicitDefEqProofs only [go_sem, ↓reduceIte]
  refine sCallT_one (c_isNaN y) ?_
  unfold cmpN
  by_cases h1 : x < y
  · have d1 : decide (x < y) = true := decide_eq_true h1
    rw [if_pos h1]
    simp -dsimp -implicitDefEqProofs only [go_sem, ↓reduceIte, d1]
    ((repeat' (with_reducible refine And.intro ?_ ?_)); all_goals try (first | omega | (refine ⟨?_, ?_⟩ <;> omega) | (exact rfl)))
    all_goals first | (simp; done) | trace_state
  · have d1 : decide (x < y) = false := decide_eq_false h1
    rw [if_neg h1]
    by_cases h2 : y < x
    · have d2 : decide (x > y) = true := decide_eq_true h2
      rw [if_pos h2]
      simp -dsimp -implicitDefEqProofs only [go_sem, ↓reduceIte, d1, d2]
      ((repeat' (with_reducible refine And.intro ?_ ?_)); all_goals try (first | omega | (refine ⟨?_, ?_⟩ <;> omega) | (exact rfl)))
      all_goals first | (simp; done) | trace_state
    · have d2 : decide (x > y) = false := decide_eq_false h2
      rw [if_neg h2]
      simp -dsimp -implicitDefEqProofs only [go_sem, ↓reduceIte, d1, d2]
      ((repeat' (with_reducible refine And.intro ?_ ?_)); all_goals try (first | omega | (refine ⟨?_, ?_⟩ <;> omega) | (exact rfl)))
      all_goals first | (simp; done) | trace_state
def cmpL : List Int → List Int → Int
  | [], [] => 0
  | [], _ :: _ => -1
  | _ :: _, [] => 1
  | x :: xs, y :: ys => if (cmpN x y != 0) = true then cmpN x y else cmpL xs ys
theorem cmpL_drop {xs ys : List Int} {i : Nat} (h : i < xs.length) (h2 : i < ys.length) : cmpL (xs.drop i) (ys.drop i) = if (cmpN xs[i] ys[i] != 0) = true then cmpN xs[i] ys[i] else cmpL (xs.drop (i + 1)) (ys.drop (i + 1)) := by
  rw [List.drop_eq_getElem_cons h, List.drop_eq_getElem_cons h2, cmpL]
theorem cmpL_more {xs ys : List Int} {i : Nat} (h : i < xs.length) (h2 : ys.length ≤ i) : cmpL (xs.drop i) (ys.drop i) = 1 := by
  rw [List.drop_eq_getElem_cons h, List.drop_of_length_le h2, cmpL]
theorem cmpL_end {xs ys : List Int} : cmpL (xs.drop xs.length) (ys.drop xs.length) = if xs.length < ys.length then -1 else 0 := by
  rw [List.drop_length]
  split
  · rename_i h
    rw [List.drop_eq_getElem_cons h, cmpL]
  · rename_i h
    rw [List.drop_of_length_le (by omega), cmpL]
theorem c_Compare (xs ys : List Int) (h : xs.length ≤ 1000000) (h2 : ys.length ≤ 1000000) : Fn Tryz.prog 74 [eIs xs, eIs ys] true (· = eI (cmpL xs ys)) := by
  refine Fn.of_vcN 36 [.tmp 4] Tryz.func74 rfl rfl rfl rfl rfl (of_decide_eq_true rfl) ?_
  obtain ⟨R, hR⟩ : ∃ R, cmpL xs ys = R := ⟨_, rfl⟩
  rw [hR]
  have hR0 : cmpL (xs.drop 0) (ys.drop 0) = R := hR
  clear hR
  simp -dsimp -implicitDefEqProofs only [go_sem, ↓reduceIte]
  refine Later.up [0, 1, 9, 10] [18, 26] [] xs.length (fun i => cmpL (xs.drop i) (ys.drop i) = R) (fun i => [(11, eI i)]) (fun _ => []) hR0 ?_ rfl (fun i hi hI => ?_) (fun hI => ?_)
  · simp -dsimp -implicitDefEqProofs only [go_sem, ↓reduceIte]
  · have gi := get_some hi
    have li := lt_len hi
    by_cases hy : i < ys.length
    · have gy := get_some hy
      have ge : decide ((i : Int) ≥ (ys.length : Int)) = false := decide_eq_false (by omega)
      rw [cmpL_drop hi hy] at hI
      have hc := c_cmpCompare xs[i] ys[i]
      generalize cmpN xs[i] ys[i] = c at *
      generalize xs[i] = x at *
      generalize ys[i] = y at *
      simp -dsimp -implicitDefEqProofs only [pick_nil, pick_cons, look_nil, look_cons, dropB_nil, dropB_cons, inD_nil, inD_cons, inE_nil, inE_cons, or_t_l, or_f_l, Nat.reduceBEq, Nat.reduceDiv, Nat.reduceAdd, beq_self_eq_true, uq0, uq1, ↓reduceIte, Nat.reduceEqDiff, uq2, uq3]
      simp -dsimp -implicitDefEqProofs only [go_sem, ↓reduceIte, gi, li, ge, gy]
      ((repeat' (with_reducible refine And.intro ?_ ?_)); all_goals try (first | omega | (refine ⟨?_, ?_⟩ <;> omega) | (exact rfl)))
      refine sCallT_one hc ?_
      cases hz : (c != 0) with
      | true =>
        rw [hz, if_pos rfl] at hI
        subst hI
        simp -dsimp -implicitDefEqProofs only [go_sem, ↓reduceIte, hz]
        ((repeat' (with_reducible refine And.intro ?_ ?_)); all_goals try (first | omega | (refine ⟨?_, ?_⟩ <;> omega) | (exact rfl)))
        all_goals first | (simp; done) | trace_state
      | false =>
        rw [hz, if_neg (by simp)] at hI
        simp -dsimp -implicitDefEqProofs only [go_sem, ↓reduceIte, hz]
        ((repeat' (with_reducible refine And.intro ?_ ?_)); all_goals try (first | omega | (refine ⟨?_, ?_⟩ <;> omega) | (exact rfl)))
        all_goals first | exact hI | (simp; done) | trace_state
    · have ge : decide ((i : Int) ≥ (ys.length : Int)) = true := decide_eq_true (by omega)
      rw [cmpL_more hi (by omega)] at hI
      subst hI
      simp -dsimp -implicitDefEqProofs only [pick_nil, pick_cons, look_nil, look_cons, dropB_nil, dropB_cons, inD_nil, inD_cons, inE_nil, inE_cons, or_t_l, or_f_l, Nat.reduceBEq, Nat.reduceDiv, Nat.reduceAdd, beq_self_eq_true, uq0, uq1, ↓reduceIte, Nat.reduceEqDiff, uq2, uq3]
      simp -dsimp -implicitDefEqProofs only [go_sem, ↓reduceIte, gi, li, ge]
      ((repeat' (with_reducible refine And.intro ?_ ?_)); all_goals try (first | omega | (refine ⟨?_, ?_⟩ <;> omega) | (exact rfl)))
      all_goals first | (simp; done) | trace_state
  · rw [cmpL_end] at hI
    subst hI
    cases hlt : decide ((xs.length : Int) < (ys.length : Int)) with
    | true =>
      have hlt' := of_decide_eq_true hlt
      rw [if_pos (by omega)]
      simp -dsimp -implicitDefEqProofs only [pick_nil, pick_cons, look_nil, look_cons, dropB_nil, dropB_cons, inD_nil, inD_cons, inE_nil, inE_cons, or_t_l, or_f_l, Nat.reduceBEq, Nat.reduceDiv, Nat.reduceAdd, beq_self_eq_true, uq0, uq1, ↓reduceIte, Nat.reduceEqDiff, uq2, uq3]
      simp -dsimp -implicitDefEqProofs only [go_sem, ↓reduceIte, nlt_len, hlt]
      ((repeat' (with_reducible refine And.intro ?_ ?_)); all_goals try (first | omega | (refine ⟨?_, ?_⟩ <;> omega) | (exact rfl)))
      all_goals first | (simp; done) | trace_state
    | false =>
      have hlt' := of_decide_eq_false hlt
      rw [if_neg (by omega)]
      simp -dsimp -implicitDefEqProofs only [pick_nil, pick_cons, look_nil, look_cons, dropB_nil, dropB_cons, inD_nil, inD_cons, inE_nil, inE_cons, or_t_l, or_f_l, Nat.reduceBEq, Nat.reduceDiv, Nat.reduceAdd, beq_self_eq_true, uq0, uq1, ↓reduceIte, Nat.reduceEqDiff, uq2, uq3]
      simp -dsimp -implicitDefEqProofs only [go_sem, ↓reduceIte, nlt_len, hlt]
      ((repeat' (with_reducible refine And.intro ?_ ?_)); all_goals try (first | omega | (refine ⟨?_, ?_⟩ <;> omega) | (exact rfl)))
      all_goals first | (simp; done) | trace_state
theorem c_compareKeys (xs ys : List Int) (h : xs.length ≤ 1000000) (h2 : ys.length ≤ 1000000) : Fn Tryz.prog 45 [eIs xs, eIs ys] true (· = eI (cmpL xs ys)) := by
  refine Fn.of_vcN 8 [.tmp 4] Tryz.func45 rfl rfl rfl rfl rfl (of_decide_eq_true rfl) ?_
  simp -dsimp -implicitDefEqProofs only [go_sem, ↓reduceIte]
  refine sCallT_one (c_Compare xs ys h h2) ?_
  simp -dsimp -implicitDefEqProofs only [go_sem, ↓reduceIte]
  ((repeat' (with_reducible refine And.intro ?_ ?_)); all_goals try (first | omega | (refine ⟨?_, ?_⟩ <;> omega) | (exact rfl)))
  all_goals first | (simp; done) | trace_state
end Go.Vc


set_option linter.unusedVariables false
set_option linter.unusedSimpArgs false
set_option linter.unnecessarySimpa false
namespace Go.Vc
open Go.Proofs
set_option maxRecDepth 100000
set_option maxHeartbeats 2000000
attribute [go_sem] Option.map_none Nat.sub_zero
def absN (x : Int) : Int := if x < -x then -x else x
def runAt (c : List Int) : Nat → Nat
  | 0 => 1
  | i + 1 => if c.getD (i + 1) 0 = c.getD i 0 then runAt c i + 1 else 1
theorem runAt_spec (c : List Int) (i : Nat) : 1 ≤ runAt c i ∧ runAt c i ≤ i + 1 ∧ (∀ j, j < runAt c i → c.getD (i - j) 0 = c.getD i 0) ∧ (runAt c i < i + 1 → c.getD (i - runAt c i) 0 ≠ c.getD i 0) := by
  induction i with
  | zero => exact ⟨Nat.le_refl _, Nat.le_refl _, fun j hj => by simp [runAt] at hj; subst hj; rfl, fun h => by simp [runAt] at h⟩
  | succ i ih =>
    obtain ⟨h1, h2, h3, h4⟩ := ih
    simp only [runAt]
    split
    · rename_i e
      refine ⟨by omega, by omega, fun j hj => ?_, fun hj => ?_⟩
      · rw [e]
        cases j with
        | zero => exact e
        | succ j => rw [show i + 1 - (j + 1) = i - j by omega]; exact h3 j (by omega)
      · rw [e, show i + 1 - (runAt c i + 1) = i - runAt c i by omega]; exact h4 (by omega)
    · rename_i e
      refine ⟨by omega, by omega, fun j hj => ?_, fun _ => ?_⟩
      · have : j = 0 := by omega
        subst this; rfl
      · show c.getD i 0 ≠ _
        exact fun h => e h.symm
theorem runAt_take (c : List Int) (n i : Nat) (h : i < n) : runAt (c.take n) i = runAt c i := by
  have g : ∀ j, j < n → (c.take n).getD j 0 = c.getD j 0 := fun j hj => by simp [List.getD_eq_getElem?_getD, List.getElem?_take, hj]
  induction i with
  | zero => rfl
  | succ i ih => simp only [runAt]; rw [g (i + 1) h, g i (by omega), ih (by omega)]
def runTo (c : List Int) (i : Nat) : Nat := if i = 0 then 0 else runAt c (i - 1)
def mostTo (c : List Int) : Nat → Nat
  | 0 => 0
  | i + 1 => if mostTo c i < runAt c i then runAt c i else mostTo c i
theorem mostTo_le (c : List Int) (s : Int) (hs : 0 ≤ s) (n : Nat) : decide ((mostTo c n : Int) > s) = !((List.range n).all fun i => decide ((runAt c i : Int) ≤ s)) := by
  induction n with
  | zero => simp [mostTo]; omega
  | succ n ih =>
    rw [range_all_succ, Bool.not_and, ← ih]
    simp only [mostTo]
    split
    · by_cases h : (runAt c n : Int) ≤ s
      · rw [decide_eq_true h, decide_eq_false (show ¬ (mostTo c n : Int) > s by omega), decide_eq_false (show ¬ (runAt c n : Int) > s by omega)]; rfl
      · rw [decide_eq_false h, decide_eq_true (show (runAt c n : Int) > s by omega)]; simp
    · by_cases h : (runAt c n : Int) ≤ s
      · rw [decide_eq_true h]; simp
      · rw [decide_eq_false h, decide_eq_true (show (mostTo c n : Int) > s by omega)]; simp
def stepAt (m : MkM) (c : List Int) (i : Nat) : Bool := i == 0 || decide (absN (c.getD i 0 - c.getD (i - 1) 0) ≤ m.step)
def kindsTo (c : List Int) (n : Nat) : Nat := ((List.range n).filter fun i => !has (c.take i) (c.getD i 0)).length
theorem kindsTo_succ (c : List Int) (i : Nat) (h : i < c.length) : (kindsTo c (i + 1) : Int) = if (!has (c.take i) c[i]) = true then (kindsTo c i : Int) + 1 else kindsTo c i := by
  have g : c.getD i 0 = c[i] := by simp [List.getD_eq_getElem?_getD, h]
  rw [kindsTo, List.range_succ, List.filter_append, List.filter_cons, g]
  split <;> simp [kindsTo]
theorem kindsTo_le (c : List Int) (i : Nat) : kindsTo c i ≤ i := by
  rw [kindsTo]; exact Nat.le_trans (List.length_filter_le _ _) (by simp)
def fault (m : MkM) (c : List Int) : Int :=
  if (c.length : Int) ≠ m.chambers then 1
  else if (c.all fun x => isIn x 0 (m.depths - 1)) = false then 2
  else if ((List.range c.length).all (stepAt m c)) = false then 3
  else if ((List.range c.length).all fun i => decide ((runAt c i : Int) ≤ m.same)) = false then 4
  else if (kindsTo c c.length : Int) < m.least then 5 else 0
attribute [irreducible] runAt mostTo kindsTo
theorem c_l01Abs (x : Int) (h : -1000 ≤ x ∧ x ≤ 1000) : Fn Tryz.prog 93 [eI x] true (· = eI (absN x)) := by
  refine Fn.of_vcN 7 [.tmp 2] Tryz.func93 rfl rfl rfl rfl rfl (of_decide_eq_true rfl) ?_
  simp -dsimp -implicitDefEqProofs only [go_sem, ↓reduceIte]
  repeat' first
    | (refine Br.intro (fun _ => ?_) (fun _ => ?_) <;> try simp -dsimp -implicitDefEqProofs only [go_sem, ↓reduceIte, *])
    | (with_reducible refine And.intro ?_ ?_)
  all_goals first | omega | (refine ⟨?_, ?_⟩ <;> omega) | rfl | (simp; done) | (simp_all [absN]; done) | (simp_all [absN]; omega) | (simp_all [absN]; split <;> simp_all <;> omega) | trace_state
theorem c_absolute (x : Int) (h : -1000 ≤ x ∧ x ≤ 1000) : Fn Tryz.prog 180 [eI x] true (· = eI (absN x)) := by
  refine Fn.of_vcN 7 [.tmp 2] Tryz.func180 rfl rfl rfl rfl rfl (of_decide_eq_true rfl) ?_
  simp -dsimp -implicitDefEqProofs only [go_sem, ↓reduceIte]
  repeat' first
    | (refine Br.intro (fun _ => ?_) (fun _ => ?_) <;> try simp -dsimp -implicitDefEqProofs only [go_sem, ↓reduceIte, *])
    | (with_reducible refine And.intro ?_ ?_)
  all_goals first | omega | (refine ⟨?_, ?_⟩ <;> omega) | rfl | (simp; done) | (simp_all [absN]; done) | (simp_all [absN]; omega) | (simp_all [absN]; split <;> simp_all <;> omega) | trace_state
theorem c_l02Kinds (c : List Int) (h : c.length ≤ 1048576) : Fn Tryz.prog 71 [eIs c] true (· = eI (kindsTo c c.length)) := by
  refine Fn.of_vcN 23 [.tmp 2] Tryz.func71 rfl rfl rfl rfl rfl (of_decide_eq_true rfl) ?_
  simp -dsimp -implicitDefEqProofs only [go_sem, ↓reduceIte]
  refine Later.up [0] [7, 18] [] c.length (fun _ => True) (fun i => [(4, eI i), (3, eI (kindsTo c i))]) (fun _ => []) trivial ?_ rfl (fun i hi _ => ?_) (fun _ => ?_)
  · simp -dsimp -implicitDefEqProofs only [go_sem, ↓reduceIte]
    all_goals first | (simp [kindsTo]; done) | trace_state
  · have gi := get_some hi
    have li := lt_len hi
    have hs := kindsTo_succ c i hi
    have hle := kindsTo_le c i
    simp -dsimp -implicitDefEqProofs only [pick_nil, pick_cons, look_nil, look_cons, dropB_nil, dropB_cons, inD_nil, inD_cons, inE_nil, inE_cons, or_t_l, or_f_l, Nat.reduceBEq, Nat.reduceDiv, Nat.reduceAdd, beq_self_eq_true, uq0, uq1, ↓reduceIte, Nat.reduceEqDiff, uq2, uq3]
    rw [hs]
    clear hs
    simp -dsimp -implicitDefEqProofs only [go_sem, ↓reduceIte, li, gi]
    repeat' first
      | (refine Br.intro (fun _ => ?_) (fun _ => ?_) <;> try simp -dsimp -implicitDefEqProofs only [go_sem, ↓reduceIte, *])
      | (with_reducible refine And.intro ?_ ?_)
      | (refine Later.draw mixed rfl ?_; try simp -dsimp -implicitDefEqProofs only [go_sem, ↓reduceIte, *])
      | (rw [← List.map_take]; refine sCallX_one (c_l01Has (c.take i) c[i] (by simp; omega)) ?_; try simp -dsimp -implicitDefEqProofs only [go_sem, ↓reduceIte, *])
    all_goals first
      | omega | (refine ⟨?_, ?_⟩ <;> omega) | (simp; done) | (simp; omega)
      | rfl
      | (simp_all; done)
      | (simp_all; omega)
      | trace_state
  · have hle := kindsTo_le c c.length
    simp -dsimp -implicitDefEqProofs only [pick_nil, pick_cons, look_nil, look_cons, dropB_nil, dropB_cons, inD_nil, inD_cons, inE_nil, inE_cons, or_t_l, or_f_l, Nat.reduceBEq, Nat.reduceDiv, Nat.reduceAdd, beq_self_eq_true, uq0, uq1, ↓reduceIte, Nat.reduceEqDiff, uq2, uq3]
    simp -dsimp -implicitDefEqProofs only [go_sem, ↓reduceIte, nlt_len]
theorem c_different (c : List Int) (h : c.length ≤ 1048576) : Fn Tryz.prog 182 [eIs c] true (· = eI (kindsTo c c.length)) := by
  refine Fn.of_vcN 23 [.tmp 2] Tryz.func182 rfl rfl rfl rfl rfl (of_decide_eq_true rfl) ?_
  simp -dsimp -implicitDefEqProofs only [go_sem, ↓reduceIte]
  refine Later.up [0, 6, 7] [17] [] c.length (fun _ => True) (fun i => [(8, eI i), (3, eI (kindsTo c i))]) (fun _ => []) trivial ?_ rfl (fun i hi _ => ?_) (fun _ => ?_)
  · simp -dsimp -implicitDefEqProofs only [go_sem, ↓reduceIte]
    all_goals first | (simp [kindsTo]; done) | trace_state
  · have gi := get_some hi
    have li := lt_len hi
    have hs := kindsTo_succ c i hi
    have hle := kindsTo_le c i
    simp -dsimp -implicitDefEqProofs only [pick_nil, pick_cons, look_nil, look_cons, dropB_nil, dropB_cons, inD_nil, inD_cons, inE_nil, inE_cons, or_t_l, or_f_l, Nat.reduceBEq, Nat.reduceDiv, Nat.reduceAdd, beq_self_eq_true, uq0, uq1, ↓reduceIte, Nat.reduceEqDiff, uq2, uq3]
    rw [hs]
    clear hs
    simp -dsimp -implicitDefEqProofs only [go_sem, ↓reduceIte, li, gi]
    repeat' first
      | (refine Br.intro (fun _ => ?_) (fun _ => ?_) <;> try simp -dsimp -implicitDefEqProofs only [go_sem, ↓reduceIte, *])
      | (with_reducible refine And.intro ?_ ?_)
      | (rw [← List.map_take]; refine sCallT_one (c_Contains (c.take i) c[i] (by simp; omega)) ?_; try simp -dsimp -implicitDefEqProofs only [go_sem, ↓reduceIte, *])
    all_goals first
      | omega | (refine ⟨?_, ?_⟩ <;> omega) | (simp; done) | (simp; omega)
      | rfl
      | (simp_all; done)
      | (simp_all; omega)
      | trace_state
  · have hle := kindsTo_le c c.length
    simp -dsimp -implicitDefEqProofs only [pick_nil, pick_cons, look_nil, look_cons, dropB_nil, dropB_cons, inD_nil, inD_cons, inE_nil, inE_cons, or_t_l, or_f_l, Nat.reduceBEq, Nat.reduceDiv, Nat.reduceAdd, beq_self_eq_true, uq0, uq1, ↓reduceIte, Nat.reduceEqDiff, uq2, uq3]
    simp -dsimp -implicitDefEqProofs only [go_sem, ↓reduceIte, nlt_len]
theorem c_sameRun (c : List Int) (h0 : 0 < c.length) (h : c.length ≤ 1048576) : Fn Tryz.prog 181 [eIs c] true (· = eI (runAt c (c.length - 1))) := by
  refine Fn.of_vcN 28 [.tmp 2] Tryz.func181 rfl rfl rfl rfl rfl (of_decide_eq_true rfl) ?_
  obtain ⟨p1, p2, p3, p4⟩ := runAt_spec c (c.length - 1)
  generalize hR : runAt c (c.length - 1) = R at p1 p2 p3 p4
  have gl : c[c.length - 1]? = some (c.getD (c.length - 1) 0) := by simp [List.getD_eq_getElem?_getD, show c.length - 1 < c.length by omega]
  generalize c.getD (c.length - 1) 0 = z at gl p3 p4
  have q3 : ∀ j, j < R → c[c.length - 1 - j]? = some z := fun j hj => by
    rw [← p3 j hj]; simp [List.getD_eq_getElem?_getD, show c.length - 1 - j < c.length by omega]
  have e1 : ((c.length : Int) - 1).toNat = c.length - 1 := by omega
  simp -dsimp -implicitDefEqProofs only [go_sem, ↓reduceIte]
  refine Later.up [0] [6, 11, 19] [] (R - 1) (fun _ => True) (fun i => [(3, eI ((i + 1 : Nat) : Int))]) (fun _ => []) trivial ?_ rfl (fun i hi _ => ?_) (fun _ => ?_)
  · simp -dsimp -implicitDefEqProofs only [go_sem, ↓reduceIte]
    all_goals first | (simp; done) | trace_state
  · have g := q3 (i + 1) (by omega)
    have li : decide (((i + 1 : Nat) : Int) < (c.length : Int)) = true := decide_eq_true (by omega)
    have e2 : ((c.length : Int) - 1 - ((i + 1 : Nat) : Int)).toNat = c.length - 1 - (i + 1) := by omega
    clear q3 p3 p4
    simp -dsimp -implicitDefEqProofs only [pick_nil, pick_cons, look_nil, look_cons, dropB_nil, dropB_cons, inD_nil, inD_cons, inE_nil, inE_cons, or_t_l, or_f_l, Nat.reduceBEq, Nat.reduceDiv, Nat.reduceAdd, beq_self_eq_true, uq0, uq1, ↓reduceIte, Nat.reduceEqDiff, uq2, uq3]
    simp -dsimp -implicitDefEqProofs only [go_sem, ↓reduceIte, li]
    repeat' first
      | (refine Br.intro (fun _ => ?_) (fun _ => ?_) <;> try simp -dsimp -implicitDefEqProofs only [go_sem, ↓reduceIte, *])
      | (with_reducible refine And.intro ?_ ?_)
      | (refine Later.draw mixed rfl ?_; try simp -dsimp -implicitDefEqProofs only [go_sem, ↓reduceIte, li, e1, e2, g, gl])
    all_goals first
      | omega | (refine ⟨?_, ?_⟩ <;> omega) | (simp; done) | (simp; omega)
      | rfl
      | (simp_all; done)
      | (simp_all; omega)
      | trace_state
  · have er : R - 1 + 1 = R := by omega
    clear q3 p3
    rw [er]
    simp -dsimp -implicitDefEqProofs only [pick_nil, pick_cons, look_nil, look_cons, dropB_nil, dropB_cons, inD_nil, inD_cons, inE_nil, inE_cons, or_t_l, or_f_l, Nat.reduceBEq, Nat.reduceDiv, Nat.reduceAdd, beq_self_eq_true, uq0, uq1, ↓reduceIte, Nat.reduceEqDiff, uq2, uq3]
    by_cases hlt : R < c.length
    · have g : c[c.length - 1 - R]? = some (c.getD (c.length - 1 - R) 0) := by simp [List.getD_eq_getElem?_getD, show c.length - 1 - R < c.length by omega]
      have hz : (c.getD (c.length - 1 - R) 0 == z) = false := beq_eq_false_iff_ne.2 (p4 (by omega))
      have li : decide ((R : Int) < (c.length : Int)) = true := decide_eq_true (by omega)
      have e2 : ((c.length : Int) - 1 - (R : Int)).toNat = c.length - 1 - R := by omega
      generalize c.getD (c.length - 1 - R) 0 = y at g hz
      clear p4
      simp -dsimp -implicitDefEqProofs only [go_sem, ↓reduceIte, li]
      repeat' first
        | (refine Br.intro (fun _ => ?_) (fun _ => ?_) <;> try simp -dsimp -implicitDefEqProofs only [go_sem, ↓reduceIte, *])
        | (with_reducible refine And.intro ?_ ?_)
        | (refine Later.draw mixed rfl ?_; try simp -dsimp -implicitDefEqProofs only [go_sem, ↓reduceIte, li, e1, e2, g, gl, hz])
      all_goals first
        | omega | (refine ⟨?_, ?_⟩ <;> omega) | (simp; done) | (simp; omega)
        | rfl
        | (simp_all; done)
        | (simp_all; omega)
        | trace_state
    · have li : decide ((R : Int) < (c.length : Int)) = false := decide_eq_false (by omega)
      clear p4
      simp -dsimp -implicitDefEqProofs only [go_sem, ↓reduceIte, li]
      repeat' first
        | (refine Br.intro (fun _ => ?_) (fun _ => ?_) <;> try simp -dsimp -implicitDefEqProofs only [go_sem, ↓reduceIte, *])
        | (with_reducible refine And.intro ?_ ?_)
        | (refine Later.draw mixed rfl ?_; try simp -dsimp -implicitDefEqProofs only [go_sem, ↓reduceIte, li])
      all_goals first
        | omega | (refine ⟨?_, ?_⟩ <;> omega) | (simp; done) | (simp; omega)
        | rfl
        | (simp_all; done)
        | (simp_all; omega)
        | trace_state
end Go.Vc


set_option linter.unusedVariables false
set_option linter.unusedSimpArgs false
set_option linter.unnecessarySimpa false
namespace Go.Vc
open Go.Proofs
set_option maxRecDepth 100000
set_option maxHeartbeats 2000000
theorem c_l02CutsK (m : MkM) (c : List Int) (hm : isMk m = true) (h : c.length ≤ 1048576) : Fn Tryz.prog 178 [eMk m, eIs c] true (· = eB ((c.all fun x => isIn x 0 (m.depths - 1)) && ((c.length : Int) == m.chambers))) := by
  refine Fn.of_vcN 26 [.tmp 4] Tryz.func178 rfl rfl rfl rfl rfl (of_decide_eq_true rfl) ?_
  have hb := isMk_num hm
  simp -dsimp -implicitDefEqProofs only [go_sem, ↓reduceIte]
  refine Later.up [1, 2] [8, 19] [] c.length (fun i => (c.take i).all (fun x => isIn x 0 (m.depths - 1))) (fun i => [(5, eI i)]) (fun _ => []) (by simp) ?_ rfl (fun i hi hI => ?_) (fun hI => ?_)
  · simp -dsimp -implicitDefEqProofs only [go_sem, ↓reduceIte]
  · have gi := get_some hi
    have li := lt_len hi
    have no : isIn c[i] 0 (m.depths - 1) = false → (c.all fun x => isIn x 0 (m.depths - 1)) = false := fun h => all_no (p := fun x => isIn x 0 (m.depths - 1)) hi h
    have yes : isIn c[i] 0 (m.depths - 1) = true → (c.take (i + 1)).all (fun x => isIn x 0 (m.depths - 1)) = true := fun h => by rw [all_take _ _ _ hi, hI, h]; rfl
    simp -dsimp -implicitDefEqProofs only [pick_nil, pick_cons, look_nil, look_cons, dropB_nil, dropB_cons, inD_nil, inD_cons, inE_nil, inE_cons, or_t_l, or_f_l, Nat.reduceBEq, Nat.reduceDiv, Nat.reduceAdd, beq_self_eq_true, uq0, uq1, ↓reduceIte, Nat.reduceEqDiff, uq2, uq3]
    simp -dsimp -implicitDefEqProofs only [go_sem, ↓reduceIte, li, gi]
    repeat' first
      | (refine Br.intro (fun _ => ?_) (fun _ => ?_) <;> try simp -dsimp -implicitDefEqProofs only [go_sem, ↓reduceIte, *])
      | (with_reducible refine And.intro ?_ ?_)
      | (refine Later.draw mixed rfl ?_; try simp -dsimp -implicitDefEqProofs only [go_sem, ↓reduceIte, *])
      | (refine sCallX_one (c_l01In _ _ _) ?_; try simp -dsimp -implicitDefEqProofs only [go_sem, ↓reduceIte, *])
    all_goals first
      | omega
      | (refine ⟨?_, ?_⟩ <;> omega)
      | rfl
      | (simp; done)
      | (rw [no (by simp_all)]; rfl)
      | (refine yes ?_; simp_all; done)
      | trace_state
  · simp -dsimp -implicitDefEqProofs only [pick_nil, pick_cons, look_nil, look_cons, dropB_nil, dropB_cons, inD_nil, inD_cons, inE_nil, inE_cons, or_t_l, or_f_l, Nat.reduceBEq, Nat.reduceDiv, Nat.reduceAdd, beq_self_eq_true, uq0, uq1, ↓reduceIte, Nat.reduceEqDiff, uq2, uq3]
    rw [List.take_length] at hI
    simp -dsimp -implicitDefEqProofs only [go_sem, ↓reduceIte, nlt_len]
    rw [hI]
    rfl
theorem c_areCutsK (m : MkM) (c : List Int) (hm : isMk m = true) (h : c.length ≤ 1048576) : Fn Tryz.prog 179 [eMk m, eIs c] true (· = eB (((c.length : Int) == m.chambers) && (c.all fun x => isIn x 0 (m.depths - 1)))) := by
  refine Fn.of_vcN 17 [.tmp 4] Tryz.func179 rfl rfl rfl rfl rfl (of_decide_eq_true rfl) ?_
  have hb := isMk_num hm
  simp -dsimp -implicitDefEqProofs only [go_sem, ↓reduceIte]
  repeat' first
    | (refine Br.intro (fun _ => ?_) (fun _ => ?_) <;> try simp -dsimp -implicitDefEqProofs only [go_sem, ↓reduceIte, *])
    | (with_reducible refine And.intro ?_ ?_)
    | (refine sCallT_one (c_allWithin c 0 (m.depths - 1) (by omega)) ?_; try simp -dsimp -implicitDefEqProofs only [go_sem, ↓reduceIte, *])
  all_goals first
    | omega
    | (refine ⟨?_, ?_⟩ <;> omega)
    | (simp_all; done)
    | trace_state
theorem elem_in {m : MkM} {c : List Int} (hm : isMk m = true) (ha : (c.all fun x => isIn x 0 (m.depths - 1)) = true) (i : Nat) (hi : i < c.length) : 0 ≤ c[i] ∧ c[i] ≤ 7 := by
  have := isMk_num hm
  rw [List.all_eq_true] at ha
  have := ha _ (List.getElem_mem hi)
  simp [isIn] at this
  omega
theorem isMk_same {m : MkM} (h : isMk m = true) : 1 ≤ m.same ∧ m.same ≤ 6 ∧ 1 ≤ m.least ∧ 1 ≤ m.step := by
  simp only [isMk, Bool.and_eq_true, isIn, decide_eq_true_eq] at h
  omega
theorem c_l02Fault (m : MkM) (c : List Int) (hm : isMk m = true) (h : c.length ≤ 1048576) : Fn Tryz.prog 169 [eMk m, eIs c] true (· = eI (fault m c)) := by
  refine Fn.of_vcN 71 [.tmp 4] Tryz.func169 rfl rfl rfl rfl rfl (of_decide_eq_true rfl) ?_
  rcases hl : ((c.length : Int) == m.chambers) with _ | _
  · have hF : fault m c = 1 := by rw [fault, if_pos (by simpa using hl)]
    rw [hF]
    simp -dsimp -implicitDefEqProofs only [go_sem, ↓reduceIte, hl]
    repeat' first
      | (refine Br.intro (fun _ => ?_) (fun _ => ?_) <;> try simp -dsimp -implicitDefEqProofs only [go_sem, ↓reduceIte, *])
      | (with_reducible refine And.intro ?_ ?_)
    all_goals (first | omega | (refine ⟨?_, ?_⟩ <;> omega) | (simp; done) | (simp; omega) | (refine ⟨?_, ?_⟩ <;> omega) | rfl | (simp; done) | (simp_all; done) | (simp_all; omega) | (exfalso; simp_all [bne]; done) | trace_state)
  have hle : ¬ (c.length : Int) ≠ m.chambers := by simpa using hl
  rcases ha : (c.all fun x => isIn x 0 (m.depths - 1)) with _ | _
  · have hF : fault m c = 2 := by rw [fault, if_neg hle, if_pos ha]
    have hc := c_l02CutsK m c hm h
    rw [ha, hl] at hc
    rw [hF]
    clear hF ha hle
    simp -dsimp -implicitDefEqProofs only [go_sem, ↓reduceIte, hl]
    repeat' first
      | (refine Br.intro (fun _ => ?_) (fun _ => ?_) <;> try simp -dsimp -implicitDefEqProofs only [go_sem, ↓reduceIte, *])
      | (with_reducible refine And.intro ?_ ?_)
      | (refine sCallT_one (hc) ?_; try simp -dsimp -implicitDefEqProofs only [go_sem, ↓reduceIte, *])
    all_goals (first | omega | (refine ⟨?_, ?_⟩ <;> omega) | (simp; done) | (simp; omega) | (refine ⟨?_, ?_⟩ <;> omega) | rfl | (simp; done) | (simp_all; done) | (simp_all; omega) | (exfalso; simp_all [bne]; done) | trace_state)
  have hF : fault m c = if ((List.range c.length).all (stepAt m c)) = false then 3 else if ((List.range c.length).all fun i => decide ((runAt c i : Int) ≤ m.same)) = false then 4 else if (kindsTo c c.length : Int) < m.least then 5 else 0 := by
    rw [fault, if_neg hle, if_neg (by simp [ha])]
  have hc := c_l02CutsK m c hm h
  rw [ha, hl] at hc
  have hel := elem_in hm ha
  have hsm := isMk_same hm
  have hkl := kindsTo_le c c.length
  have hch : c.length ≤ 6 := by have := isMk_num hm; omega
  clear ha hle
  simp -dsimp -implicitDefEqProofs only [go_sem, ↓reduceIte, hl]
  repeat' first
    | (refine Br.intro (fun _ => ?_) (fun _ => ?_) <;> try simp -dsimp -implicitDefEqProofs only [go_sem, ↓reduceIte, *])
    | (with_reducible refine And.intro ?_ ?_)
    | (refine sCallT_one (hc) ?_; try simp -dsimp -implicitDefEqProofs only [go_sem, ↓reduceIte, *])
  all_goals try (first | omega | (simp; done) | (simp_all; done))
  clear hl hc
  refine Later.up [1, 2] [19, 36, 59] [] c.length (fun i => (List.range i).all (stepAt m c)) (fun i => [(7, eI i), (5, eI (runTo c i)), (6, eI (mostTo c i))]) (fun _ => []) (by simp) ?_ rfl (fun i hi hI => ?_) (fun hI => ?_)
  · have h0 : mostTo c 0 = 0 := by unfold mostTo; rfl
    rw [show runTo c 0 = 0 from rfl, h0]
    simp -dsimp -implicitDefEqProofs only [go_sem, ↓reduceIte]
    all_goals (first | omega | (refine ⟨?_, ?_⟩ <;> omega) | (simp; done) | (simp; omega) | (refine ⟨?_, ?_⟩ <;> omega) | rfl | (simp; done) | (simp_all; done) | (simp_all; omega) | (exfalso; simp_all [bne]; done) | trace_state)
  · have no : stepAt m c i = false → fault m c = 3 := fun h => by rw [hF, if_pos (range_all_no hi h)]
    have yes : stepAt m c i = true → (List.range (i + 1)).all (stepAt m c) = true := fun h => by rw [range_all_succ, hI, h]; rfl
    have hM : ((mostTo c (i + 1) : Nat) : Int) = if ((runTo c (i + 1) : Nat) : Int) > (mostTo c i : Int) then ((runTo c (i + 1) : Nat) : Int) else (mostTo c i : Int) := by
      rw [show runTo c (i + 1) = runAt c i from rfl]
      show ((mostTo c (i + 1) : Nat) : Int) = _
      rw [show mostTo c (i + 1) = if mostTo c i < runAt c i then runAt c i else mostTo c i by rw [mostTo]]
      by_cases hlt : mostTo c i < runAt c i
      · rw [if_pos hlt, if_pos (by omega)]
      · rw [if_neg hlt, if_neg (by omega)]
    have hrb : runTo c i ≤ i ∧ runTo c (i + 1) ≤ i + 1 := by
      refine ⟨?_, (runAt_spec c i).2.1⟩
      rw [runTo]; split
      · omega
      · have := (runAt_spec c (i - 1)).2.1; omega
    have hmb : mostTo c i ≤ c.length := by
      have key : ∀ n, mostTo c n ≤ n := fun n => by
        induction n with
        | zero => unfold mostTo; omega
        | succ n ih => rw [mostTo]; have := (runAt_spec c n).2.1; split <;> omega
      have := key i; omega
    have e1 := hel i hi
    have gi := get_some hi
    have li := lt_len hi
    clear hF hI
    generalize mostTo c i = M at hM hmb
    generalize mostTo c (i + 1) = M' at hM
    by_cases hi0 : 0 < i
    rotate_left
    · have g3 : decide ((i : Int) > 0) = false := by simp; omega
      have hR : runTo c i = 0 ∧ runTo c (i + 1) = 1 := by
        have e0 : i = 0 := by omega
        subst e0
        exact ⟨rfl, by show runAt c 0 = 1; unfold runAt; rfl⟩
      have hs : stepAt m c i = true := by
        have e0 : i = 0 := by omega
        subst e0; rfl
      rw [hR.1, hR.2]
      rw [hR.2] at hM
      clear hR hrb no
      have yes := yes hs
      simp -dsimp -implicitDefEqProofs only [pick_nil, pick_cons, look_nil, look_cons, dropB_nil, dropB_cons, inD_nil, inD_cons, inE_nil, inE_cons, or_t_l, or_f_l, Nat.reduceBEq, Nat.reduceDiv, Nat.reduceAdd, beq_self_eq_true, uq0, uq1, ↓reduceIte, Nat.reduceEqDiff, uq2, uq3]
      rw [hM]
      simp -dsimp -implicitDefEqProofs only [go_sem, ↓reduceIte, li, gi, g3]
      repeat' first
        | (refine Br.intro (fun _ => ?_) (fun _ => ?_) <;> try simp -dsimp -implicitDefEqProofs only [go_sem, ↓reduceIte, *])
        | (with_reducible refine And.intro ?_ ?_)
        | (refine Later.draw mixed rfl ?_; try simp -dsimp -implicitDefEqProofs only [go_sem, ↓reduceIte, li, gi, g3])
      all_goals first
        | exact yes
        | (first | omega | (refine ⟨?_, ?_⟩ <;> omega) | (simp; done) | (simp; omega) | (refine ⟨?_, ?_⟩ <;> omega) | rfl | (simp; done) | (simp_all; done) | (simp_all; omega) | (exfalso; simp_all [bne]; done) | trace_state)
    · have hi' : i - 1 < c.length := by omega
      have e2 := hel (i - 1) hi'
      have g2 : c[((i : Int) - 1).toNat]? = some c[i - 1] := by rw [pred_toNat hi0]; exact get_some hi'
      have g3 : decide ((i : Int) > 0) = true := by simp; omega
      have hs : stepAt m c i = decide (absN (c[i] - c[i - 1]) ≤ m.step) := by
        rw [stepAt, show (i == 0) = false by simp; omega]
        simp [List.getD_eq_getElem?_getD, hi, hi']
      have hR : ((runTo c (i + 1) : Nat) : Int) = if (c[i] == c[i - 1]) = true then (runTo c i : Int) + 1 else 0 + 1 := by
        obtain ⟨j, rfl⟩ : ∃ j, i = j + 1 := ⟨i - 1, by omega⟩
        rw [show runTo c (j + 1 + 1) = runAt c (j + 1) from rfl, show runTo c (j + 1) = runAt c j from rfl, runAt]
        simp only [Nat.add_sub_cancel]
        have q1 : c.getD (j + 1) 0 = c[j + 1] := by simp [List.getD_eq_getElem?_getD, hi]
        have q2 : c.getD j 0 = c[j] := by simp [List.getD_eq_getElem?_getD, show j < c.length by omega]
        rw [q1, q2]
        by_cases hq : c[j + 1] = c[j]
        · rw [if_pos hq, if_pos (by simpa using hq)]; simp
        · rw [if_neg hq, if_neg (by simpa using hq)]; simp
      rw [hs] at no yes
      have yes' : decide (absN (c[i] - c[i - 1]) > m.step) = false → (List.range (i + 1)).all (stepAt m c) = true := fun h => yes (decide_eq_true (by have := of_decide_eq_false h; omega))
      have no' : decide (absN (c[i] - c[i - 1]) > m.step) = true → fault m c = 3 := fun h => no (decide_eq_false (by have := of_decide_eq_true h; omega))
      have hab : absN (c[i] - c[i - 1]) ≤ 7 := by unfold absN; split <;> omega
      have hab0 : 0 ≤ absN (c[i] - c[i - 1]) := by unfold absN; split <;> omega
      generalize runTo c i = R at hR hrb
      generalize runTo c (i + 1) = R' at hR hrb hM
      clear hs
      simp -dsimp -implicitDefEqProofs only [pick_nil, pick_cons, look_nil, look_cons, dropB_nil, dropB_cons, inD_nil, inD_cons, inE_nil, inE_cons, or_t_l, or_f_l, Nat.reduceBEq, Nat.reduceDiv, Nat.reduceAdd, beq_self_eq_true, uq0, uq1, ↓reduceIte, Nat.reduceEqDiff, uq2, uq3]
      rw [hM]
      clear hM
      rw [hR]
      simp -dsimp -implicitDefEqProofs only [go_sem, ↓reduceIte, li, gi, g2, g3]
      repeat' first
        | (refine Br.intro (fun _ => ?_) (fun _ => ?_) <;> try simp -dsimp -implicitDefEqProofs only [go_sem, ↓reduceIte, *])
        | (with_reducible refine And.intro ?_ ?_)
        | (refine Later.draw mixed rfl ?_; try simp -dsimp -implicitDefEqProofs only [go_sem, ↓reduceIte, li, gi, g2, g3])
        | (refine sCallX_one (c_l01Abs _ (by omega)) ?_; try simp -dsimp -implicitDefEqProofs only [go_sem, ↓reduceIte, *])
      all_goals first
        | (rw [no' (by assumption)]; done)
        | (rw [← List.range_succ]; exact yes' (by assumption))
        | (first | omega | (refine ⟨?_, ?_⟩ <;> omega) | (simp; done) | (simp; omega) | (refine ⟨?_, ?_⟩ <;> omega) | rfl | (simp; done) | (simp_all; done) | (simp_all; omega) | (exfalso; simp_all [bne]; done) | trace_state)
  · have hMl := mostTo_le c m.same (by omega) c.length
    rw [hI, if_neg (by decide)] at hF
    rw [hF]
    clear hF hel hI
    rcases hq : ((List.range c.length).all fun i => decide ((runAt c i : Int) ≤ m.same)) with _ | _
    all_goals
      rw [hq] at hMl
      clear hq
      by_cases hk : (kindsTo c c.length : Int) < m.least
    all_goals
      have hk' := hk
      first | rw [if_pos hk] | rw [if_neg hk]
      first | replace hk' := decide_eq_true hk' | replace hk' := decide_eq_false hk'
      clear hk
      simp -dsimp -implicitDefEqProofs only [pick_nil, pick_cons, look_nil, look_cons, dropB_nil, dropB_cons, inD_nil, inD_cons, inE_nil, inE_cons, or_t_l, or_f_l, Nat.reduceBEq, Nat.reduceDiv, Nat.reduceAdd, beq_self_eq_true, uq0, uq1, ↓reduceIte, Nat.reduceEqDiff, uq2, uq3]
      simp -dsimp -implicitDefEqProofs only [go_sem, ↓reduceIte, nlt_len, hMl]
      repeat' first
        | (refine Br.intro (fun _ => ?_) (fun _ => ?_) <;> try simp -dsimp -implicitDefEqProofs only [go_sem, ↓reduceIte, *])
        | (with_reducible refine And.intro ?_ ?_)
        | (refine Later.draw mixed rfl ?_; try simp -dsimp -implicitDefEqProofs only [go_sem, ↓reduceIte, nlt_len, hMl, hk'])
        | (refine sCallX_one (c_l02Kinds c h) ?_; try simp -dsimp -implicitDefEqProofs only [go_sem, ↓reduceIte, *])
      all_goals (first | omega | (refine ⟨?_, ?_⟩ <;> omega) | (simp; done) | (simp; omega) | (refine ⟨?_, ?_⟩ <;> omega) | rfl | (simp; done) | (simp_all; done) | (simp_all; omega) | (exfalso; simp_all [bne]; done) | trace_state)
theorem c_keyFault (m : MkM) (c : List Int) (hm : isMk m = true) (h : c.length ≤ 1048576) : Fn Tryz.prog 171 [eMk m, eIs c] true (· = eI (fault m c)) := by
  refine Fn.of_vcN 55 [.tmp 4] Tryz.func171 rfl rfl rfl rfl rfl (of_decide_eq_true rfl) ?_
  rcases hl : ((c.length : Int) == m.chambers) with _ | _
  · have hF : fault m c = 1 := by rw [fault, if_pos (by simpa using hl)]
    rw [hF]
    simp -dsimp -implicitDefEqProofs only [go_sem, ↓reduceIte, hl]
    repeat' first
      | (refine Br.intro (fun _ => ?_) (fun _ => ?_) <;> try simp -dsimp -implicitDefEqProofs only [go_sem, ↓reduceIte, *])
      | (with_reducible refine And.intro ?_ ?_)
    all_goals (first | omega | (refine ⟨?_, ?_⟩ <;> omega) | (simp; done) | (simp; omega) | (refine ⟨?_, ?_⟩ <;> omega) | rfl | (simp; done) | (simp_all; done) | (simp_all; omega) | (exfalso; simp_all [bne]; done) | trace_state)
  have hle : ¬ (c.length : Int) ≠ m.chambers := by simpa using hl
  have hc := c_areCutsK m c hm h
  rcases ha : (c.all fun x => isIn x 0 (m.depths - 1)) with _ | _
  · have hF : fault m c = 2 := by rw [fault, if_neg hle, if_pos ha]
    rw [ha, hl] at hc
    rw [hF]
    clear hF ha hle
    simp -dsimp -implicitDefEqProofs only [go_sem, ↓reduceIte, hl]
    repeat' first
      | (refine Br.intro (fun _ => ?_) (fun _ => ?_) <;> try simp -dsimp -implicitDefEqProofs only [go_sem, ↓reduceIte, *])
      | (with_reducible refine And.intro ?_ ?_)
      | (refine sCallT_one (hc) ?_; try simp -dsimp -implicitDefEqProofs only [go_sem, ↓reduceIte, *])
    all_goals (first | omega | (refine ⟨?_, ?_⟩ <;> omega) | (simp; done) | (simp; omega) | (refine ⟨?_, ?_⟩ <;> omega) | rfl | (simp; done) | (simp_all; done) | (simp_all; omega) | (exfalso; simp_all [bne]; done) | trace_state)
  have hF : fault m c = if ((List.range c.length).all (stepAt m c)) = false then 3 else if ((List.range c.length).all fun i => decide ((runAt c i : Int) ≤ m.same)) = false then 4 else if (kindsTo c c.length : Int) < m.least then 5 else 0 := by
    rw [fault, if_neg hle, if_neg (by simp [ha])]
  rw [ha, hl] at hc
  have hel := elem_in hm ha
  have hsm := isMk_same hm
  have hkl := kindsTo_le c c.length
  have hch : 2 ≤ c.length ∧ c.length ≤ 6 := by have := isMk_num hm; omega
  clear ha hle
  simp -dsimp -implicitDefEqProofs only [go_sem, ↓reduceIte, hl]
  repeat' first
    | (refine Br.intro (fun _ => ?_) (fun _ => ?_) <;> try simp -dsimp -implicitDefEqProofs only [go_sem, ↓reduceIte, *])
    | (with_reducible refine And.intro ?_ ?_)
    | (refine sCallT_one (hc) ?_; try simp -dsimp -implicitDefEqProofs only [go_sem, ↓reduceIte, *])
  all_goals try (first | omega | (simp; done) | (simp_all; done))
  clear hl hc
  refine Later.up [1, 2] [18, 32] [] (c.length - 1) (fun i => (List.range (i + 1)).all (stepAt m c)) (fun i => [(5, eI ((i + 1 : Nat) : Int))]) (fun _ => []) (by simp [stepAt]) ?_ rfl (fun i hi hI => ?_) (fun hI => ?_)
  · simp -dsimp -implicitDefEqProofs only [go_sem, ↓reduceIte]
    all_goals (first | omega | (refine ⟨?_, ?_⟩ <;> omega) | (simp; done) | (simp; omega) | (refine ⟨?_, ?_⟩ <;> omega) | rfl | (simp; done) | (simp_all; done) | (simp_all; omega) | (exfalso; simp_all [bne]; done) | trace_state)
  · have hi1 : i + 1 < c.length := by omega
    have hi0 : i < c.length := by omega
    have no : stepAt m c (i + 1) = false → fault m c = 3 := fun h => by rw [hF, if_pos (range_all_no hi1 h)]
    have yes : stepAt m c (i + 1) = true → (List.range (i + 1 + 1)).all (stepAt m c) = true := fun h => by rw [range_all_succ, hI, h]; rfl
    have e1 := hel i hi0
    have e2 := hel (i + 1) hi1
    have g1 := get_some hi1
    have g2 : c[(((i + 1 : Nat) : Int) - 1).toNat]? = some c[i] := by rw [show (((i + 1 : Nat) : Int) - 1).toNat = i by omega]; exact get_some hi0
    have li := lt_len hi1
    have hs : stepAt m c (i + 1) = decide (absN (c[i + 1] - c[i]) ≤ m.step) := by
      rw [stepAt, show (i + 1 == 0) = false by simp]
      simp [List.getD_eq_getElem?_getD, hi0, hi1]
    rw [hs] at no yes
    have yes' : decide (absN (c[i + 1] - c[i]) > m.step) = false → (List.range (i + 1 + 1)).all (stepAt m c) = true := fun h => yes (decide_eq_true (by have := of_decide_eq_false h; omega))
    have no' : decide (absN (c[i + 1] - c[i]) > m.step) = true → fault m c = 3 := fun h => no (decide_eq_false (by have := of_decide_eq_true h; omega))
    have hab : absN (c[i + 1] - c[i]) ≤ 7 := by unfold absN; split <;> omega
    have hab0 : 0 ≤ absN (c[i + 1] - c[i]) := by unfold absN; split <;> omega
    clear hF hI hs
    simp -dsimp -implicitDefEqProofs only [pick_nil, pick_cons, look_nil, look_cons, dropB_nil, dropB_cons, inD_nil, inD_cons, inE_nil, inE_cons, or_t_l, or_f_l, Nat.reduceBEq, Nat.reduceDiv, Nat.reduceAdd, beq_self_eq_true, uq0, uq1, ↓reduceIte, Nat.reduceEqDiff, uq2, uq3]
    simp -dsimp -implicitDefEqProofs only [go_sem, ↓reduceIte, li, g1, g2]
    repeat' first
      | (refine Br.intro (fun _ => ?_) (fun _ => ?_) <;> try simp -dsimp -implicitDefEqProofs only [go_sem, ↓reduceIte, *])
      | (with_reducible refine And.intro ?_ ?_)
      | (refine Later.draw mixed rfl ?_; try simp -dsimp -implicitDefEqProofs only [go_sem, ↓reduceIte, li, g1, g2])
      | (refine sCallX_one (c_absolute _ (by omega)) ?_; try simp -dsimp -implicitDefEqProofs only [go_sem, ↓reduceIte, *])
    all_goals first
      | (rw [no' (by assumption)]; done)
      | (exact yes' (by assumption))
      | (simp only [List.range_succ] at yes' ⊢; exact yes' (by assumption))
      | (first | omega | (refine ⟨?_, ?_⟩ <;> omega) | (simp; done) | (simp; omega) | (refine ⟨?_, ?_⟩ <;> omega) | rfl | (simp; done) | (simp_all; done) | (simp_all; omega) | (exfalso; simp_all [bne]; done) | trace_state)
  · have hcl : c.length - 1 + 1 = c.length := by omega
    rw [hcl] at hI ⊢
    rw [hI, if_neg (by decide)] at hF
    clear hel hI hcl
    simp -dsimp -implicitDefEqProofs only [pick_nil, pick_cons, look_nil, look_cons, dropB_nil, dropB_cons, inD_nil, inD_cons, inE_nil, inE_cons, or_t_l, or_f_l, Nat.reduceBEq, Nat.reduceDiv, Nat.reduceAdd, beq_self_eq_true, uq0, uq1, ↓reduceIte, Nat.reduceEqDiff, uq2, uq3]
    simp -dsimp -implicitDefEqProofs only [go_sem, ↓reduceIte, nlt_len]
    repeat' first
      | (refine Br.intro (fun _ => ?_) (fun _ => ?_) <;> try simp -dsimp -implicitDefEqProofs only [go_sem, ↓reduceIte, *])
      | (with_reducible refine And.intro ?_ ?_)
    all_goals try (first | omega | rfl | (simp; done))
    refine Later.up [1, 2, 37] [45] [] c.length (fun i => (List.range i).all fun i => decide ((runAt c i : Int) ≤ m.same)) (fun i => [(38, eI i)]) (fun _ => []) (by simp) ?_ rfl (fun i hi hI => ?_) (fun hI => ?_)
    · simp -dsimp -implicitDefEqProofs only [go_sem, ↓reduceIte]
      all_goals (first | omega | (refine ⟨?_, ?_⟩ <;> omega) | (simp; done) | (simp; omega) | (refine ⟨?_, ?_⟩ <;> omega) | rfl | (simp; done) | (simp_all; done) | (simp_all; omega) | (exfalso; simp_all [bne]; done) | trace_state)
    · have no : decide ((runAt c i : Int) ≤ m.same) = false → fault m c = 4 := fun h => by rw [hF, if_pos (range_all_no (p := fun i => decide ((runAt c i : Int) ≤ m.same)) hi h)]
      have yes : decide ((runAt c i : Int) ≤ m.same) = true → ((List.range (i + 1)).all fun i => decide ((runAt c i : Int) ≤ m.same)) = true := fun h => by rw [range_all_succ, hI, h]; rfl
      have yes' : decide ((runAt c i : Int) > m.same) = false → ((List.range (i + 1)).all fun i => decide ((runAt c i : Int) ≤ m.same)) = true := fun h => yes (decide_eq_true (by have := of_decide_eq_false h; omega))
      have no' : decide ((runAt c i : Int) > m.same) = true → fault m c = 4 := fun h => no (decide_eq_false (by have := of_decide_eq_true h; omega))
      have hrl := (runAt_spec c i).2.1
      have hcr := c_sameRun (c.take (i + 1)) (by simp; omega) (by simp; omega)
      have hll : (c.take (i + 1)).length - 1 = i := by simp; omega
      rw [hll, runAt_take c (i + 1) i (by omega)] at hcr
      have li := lt_len hi
      have e3 : ((i : Int) + 1).toNat = i + 1 := by omega
      clear hF hI no yes hll
      simp -dsimp -implicitDefEqProofs only [pick_nil, pick_cons, look_nil, look_cons, dropB_nil, dropB_cons, inD_nil, inD_cons, inE_nil, inE_cons, or_t_l, or_f_l, Nat.reduceBEq, Nat.reduceDiv, Nat.reduceAdd, beq_self_eq_true, uq0, uq1, ↓reduceIte, Nat.reduceEqDiff, uq2, uq3]
      simp -dsimp -implicitDefEqProofs only [go_sem, ↓reduceIte, li]
      repeat' first
        | (refine Br.intro (fun _ => ?_) (fun _ => ?_) <;> try simp -dsimp -implicitDefEqProofs only [go_sem, ↓reduceIte, *])
        | (with_reducible refine And.intro ?_ ?_)
        | (refine Later.draw mixed rfl ?_; try simp -dsimp -implicitDefEqProofs only [go_sem, ↓reduceIte, li, e3])
        | (rw [← List.map_take]; refine sCallX_one hcr ?_; try simp -dsimp -implicitDefEqProofs only [go_sem, ↓reduceIte, *])
      all_goals first
        | (rw [no' (by assumption)]; done)
        | (exact yes' (by assumption))
        | (rw [← List.range_succ]; exact yes' (by assumption))
        | (first | omega | (refine ⟨?_, ?_⟩ <;> omega) | (simp; done) | (simp; omega) | (refine ⟨?_, ?_⟩ <;> omega) | rfl | (simp; done) | (simp_all; done) | (simp_all; omega) | (exfalso; simp_all [bne]; done) | trace_state)
    · rw [hI, if_neg (by decide)] at hF
      rw [hF]
      clear hF hI
      by_cases hk : (kindsTo c c.length : Int) < m.least
      all_goals
        have hk' := hk
        first | rw [if_pos hk] | rw [if_neg hk]
        first | replace hk' := decide_eq_true hk' | replace hk' := decide_eq_false hk'
        clear hk
        simp -dsimp -implicitDefEqProofs only [pick_nil, pick_cons, look_nil, look_cons, dropB_nil, dropB_cons, inD_nil, inD_cons, inE_nil, inE_cons, or_t_l, or_f_l, Nat.reduceBEq, Nat.reduceDiv, Nat.reduceAdd, beq_self_eq_true, uq0, uq1, ↓reduceIte, Nat.reduceEqDiff, uq2, uq3]
        simp -dsimp -implicitDefEqProofs only [go_sem, ↓reduceIte, nlt_len]
        repeat' first
          | (refine Br.intro (fun _ => ?_) (fun _ => ?_) <;> try simp -dsimp -implicitDefEqProofs only [go_sem, ↓reduceIte, *])
          | (with_reducible refine And.intro ?_ ?_)
          | (refine Later.draw mixed rfl ?_; try simp -dsimp -implicitDefEqProofs only [go_sem, ↓reduceIte, nlt_len, hk'])
          | (refine sCallX_one (c_different c h) ?_; try simp -dsimp -implicitDefEqProofs only [go_sem, ↓reduceIte, *])
        all_goals (first | omega | (refine ⟨?_, ?_⟩ <;> omega) | (simp; done) | (simp; omega) | (refine ⟨?_, ?_⟩ <;> omega) | rfl | (simp; done) | (simp_all; done) | (simp_all; omega) | (exfalso; simp_all [bne]; done) | trace_state)
end Go.Vc


set_option linter.unusedVariables false
set_option linter.unusedSimpArgs false
set_option linter.unnecessarySimpa false
namespace Go.Vc
open Go.Proofs
set_option maxRecDepth 100000
structure KS (σ : Type) where
  ver : Nat
  zs : List Int
  s : σ
def stN {τ : Type} (f : Nat → τ → τ × Bool) (t : τ) : Nat → τ × Bool
  | 0 => (t, true)
  | i + 1 => if (stN f t i).2 = true then f i (stN f t i).1 else stN f t i
theorem stN_succ {τ : Type} {f : Nat → τ → τ × Bool} {t : τ} {i : Nat} (h : (stN f t i).2 = true) : stN f t (i + 1) = f i (stN f t i).1 := by
  rw [stN, if_pos h]
def visitL {σ : Type} (f : σ → List Int → σ × Bool) : σ → List (List Int) → σ × Bool
  | s, [] => (s, true)
  | s, k :: r => if (f s k).2 = true then visitL f (f s k).1 r else f s k
theorem visitL_append {σ : Type} {f : σ → List Int → σ × Bool} : ∀ (a b : List (List Int)) (s : σ), visitL f s (a ++ b) = if (visitL f s a).2 = true then visitL f (visitL f s a).1 b else visitL f s a
  | [], b, s => by simp [visitL]
  | k :: a, b, s => by
    simp only [uq2, visitL]
    by_cases h : (f s k).2 = true
    · simp only [h, if_true]; exact visitL_append a b _
    · have h' : (f s k).2 = false := by simpa using h
      simp [h']
def stepOk (m : MkM) (c : List Int) (d : Int) : Bool := c.isEmpty || decide (absN (d - c.getD (c.length - 1) 0) ≤ m.step)
def runOk (m : MkM) (c : List Int) (d : Int) : Bool := decide ((runAt (c ++ [d]) c.length : Int) ≤ m.same)
def keysFrom (m : MkM) : Nat → List Int → List (List Int)
  | 0, c => if (kindsTo c c.length : Int) < m.least then [] else [c]
  | n + 1, c => (List.range m.depths.toNat).flatMap fun (d : Nat) => if (stepOk m c (d : Int) && runOk m c (d : Int)) = true then keysFrom m n (c ++ [(d : Int)]) else []
def cutF {σ : Type} (m : MkM) (f : σ → List Int → σ × Bool) : Nat → List Int → KS σ → KS σ × Bool
  | 0, c, t => if (kindsTo c c.length : Int) < m.least then (t, true) else (⟨t.ver, t.zs, (f t.s c).1⟩, (f t.s c).2)
  | n + 1, c, t => stN (fun (d : Nat) t => if stepOk m c d = true then if runOk m c d = true then cutF m f n (c ++ [(d : Int)]) ⟨t.ver + 1, t.zs.take c.length ++ [(d : Int)], t.s⟩ else (⟨t.ver + 1, t.zs.take c.length ++ [(d : Int)], t.s⟩, true) else (t, true)) t m.depths.toNat
def cutB {σ : Type} (m : MkM) (f : σ → List Int → σ × Bool) (n : Nat) (c : List Int) (d : Nat) (t : KS σ) : KS σ × Bool :=
  if stepOk m c d = true then if runOk m c d = true then cutF m f n (c ++ [(d : Int)]) ⟨t.ver + 1, t.zs.take c.length ++ [(d : Int)], t.s⟩ else (⟨t.ver + 1, t.zs.take c.length ++ [(d : Int)], t.s⟩, true) else (t, true)
theorem cutF_succ {σ : Type} (m : MkM) (f : σ → List Int → σ × Bool) (n : Nat) (c : List Int) (t : KS σ) : cutF m f (n + 1) c t = stN (cutB m f n c) t m.depths.toNat := rfl
def okZ {σ : Type} (c : List Int) (t : KS σ) : Prop := t.zs.take c.length = c ∧ c.length ≤ t.zs.length
theorem okZ_next {σ : Type} {c : List Int} {t : KS σ} (h : okZ c t) (d : Int) : okZ (c ++ [d]) (⟨t.ver + 1, t.zs.take c.length ++ [d], t.s⟩ : KS σ) := by
  refine ⟨?_, ?_⟩
  · show (t.zs.take c.length ++ [d]).take (c ++ [d]).length = _
    rw [h.1]; exact List.take_length
  · show (c ++ [d]).length ≤ (t.zs.take c.length ++ [d]).length
    rw [h.1]; exact Nat.le_refl _
theorem okZ_back {σ : Type} {c : List Int} {d : Int} {t : KS σ} (h : okZ (c ++ [d]) t) : okZ c t := by
  have h2 : c.length ≤ t.zs.length := by have := h.2; simp at this; omega
  refine ⟨?_, h2⟩
  have := congrArg (List.take c.length) h.1
  simp only [List.take_take] at this
  rw [show min c.length (c ++ [d]).length = c.length by simp] at this
  rw [this]; simp
theorem cutF_spec {σ : Type} (m : MkM) (f : σ → List Int → σ × Bool) : ∀ (n : Nat) (c : List Int) (t : KS σ), okZ c t → okZ c (cutF m f n c t).1 ∧ (cutF m f n c t).1.s = (visitL f t.s (keysFrom m n c)).1 ∧ (cutF m f n c t).2 = (visitL f t.s (keysFrom m n c)).2
  | 0, c, t, h => by
    simp only [cutF, keysFrom]
    split
    · exact ⟨h, rfl, rfl⟩
    · refine ⟨h, ?_, ?_⟩
      · simp only [visitL]; split <;> rfl
      · simp only [visitL]; split <;> simp_all
  | n + 1, c, t, h => by
    rw [cutF_succ, keysFrom]
    generalize m.depths.toNat = D
    induction D with
    | zero => exact ⟨h, rfl, rfl⟩
    | succ D ih =>
      obtain ⟨i1, i2, i3⟩ := ih
      rw [List.range_succ, List.flatMap_append, visitL_append]
      rw [← i3]
      by_cases hb : (stN (cutB m f n c) t D).2 = true
      · rw [stN_succ hb, if_pos hb, ← i2]
        generalize (stN (cutB m f n c) t D).1 = u at i1
        simp only [List.flatMap_cons, List.flatMap_nil, List.append_nil, cutB]
        by_cases h1 : stepOk m c D = true
        · by_cases h2 : runOk m c D = true
          · rw [if_pos h1, if_pos h2, if_pos (by rw [h1, h2]; rfl)]
            have := cutF_spec m f n (c ++ [(D : Int)]) ⟨u.ver + 1, u.zs.take c.length ++ [(D : Int)], u.s⟩ (okZ_next i1 D)
            exact ⟨okZ_back this.1, this.2.1, this.2.2⟩
          · rw [if_pos h1, if_neg h2, if_neg (by simp [h2])]
            exact ⟨okZ_back (okZ_next i1 D), rfl, rfl⟩
        · rw [if_neg h1, if_neg (by simp [h1])]
          exact ⟨i1, rfl, rfl⟩
      · rw [stN, if_neg hb, if_neg hb]
        exact ⟨i1, i2, by simpa using i3⟩
theorem stN_okZ {σ : Type} {m : MkM} {f : σ → List Int → σ × Bool} {n : Nat} {c : List Int} {t : KS σ} (h : okZ c t) : ∀ D, okZ c (stN (cutB m f n c) t D).1
  | 0 => h
  | D + 1 => by
    have i1 := stN_okZ h D (m := m) (f := f) (n := n)
    by_cases hb : (stN (cutB m f n c) t D).2 = true
    · rw [stN_succ hb]
      generalize (stN (cutB m f n c) t D).1 = u at i1
      simp only [cutB]
      by_cases h1 : stepOk m c D = true
      · by_cases h2 : runOk m c D = true
        · rw [if_pos h1, if_pos h2]
          exact okZ_back (cutF_spec m f n (c ++ [(D : Int)]) ⟨u.ver + 1, u.zs.take c.length ++ [(D : Int)], u.s⟩ (okZ_next i1 D)).1
        · rw [if_pos h1, if_neg h2]; exact okZ_back (okZ_next i1 D)
      · rw [if_neg h1]; exact i1
    · rw [stN, if_neg hb]; exact i1
theorem keysFrom_len (m : MkM) (hm : isMk m = true) : ∀ (n : Nat) (c : List Int), (keysFrom m n c).length ≤ 8 ^ n
  | 0, c => by simp only [keysFrom]; split <;> simp
  | n + 1, c => by
    have hd : m.depths.toNat ≤ 8 := by have := isMk_num hm; omega
    have : ∀ D, ((List.range D).flatMap fun (d : Nat) => if (stepOk m c (d : Int) && runOk m c (d : Int)) = true then keysFrom m n (c ++ [(d : Int)]) else []).length ≤ D * 8 ^ n := by
      intro D
      induction D with
      | zero => simp
      | succ D ih =>
        rw [List.range_succ, List.flatMap_append, List.length_append, Nat.succ_mul]
        refine Nat.add_le_add ih ?_
        simp only [List.flatMap_cons, List.flatMap_nil, List.append_nil]
        split
        · exact keysFrom_len m hm n _
        · exact Nat.zero_le _
    rw [keysFrom, Nat.pow_succ, Nat.mul_comm (8 ^ n) 8]
    exact Nat.le_trans (this _) (Nat.mul_le_mul_right _ hd)
theorem keysFrom_mem (m : MkM) : ∀ (n : Nat) (c k : List Int), k ∈ keysFrom m n c → k.take c.length = c ∧ k.length = c.length + n
  | 0, c, k, h => by
    simp only [keysFrom] at h
    split at h
    · cases h
    · simp at h; subst h; simp
  | n + 1, c, k, h => by
    simp only [keysFrom, List.mem_flatMap, List.mem_range] at h
    obtain ⟨d, _, h⟩ := h
    split at h
    · have := keysFrom_mem m n _ k h
      have h1 := congrArg (List.take c.length) this.1
      simp only [List.take_take] at h1
      rw [show min c.length (c ++ [(d : Int)]).length = c.length by simp] at h1
      refine ⟨by rw [h1]; simp, by rw [this.2]; simp; omega⟩
    · cases h
def okTo (m : MkM) (c : List Int) : Bool := (List.range c.length).all fun i => decide ((runAt c i : Int) ≤ m.same) && stepAt m c i
theorem stepAt_take {m : MkM} {c : List Int} {d : Int} {i : Nat} (h : i < c.length) : stepAt m (c ++ [d]) i = stepAt m c i := by
  have g : ∀ j, j < c.length → (c ++ [d]).getD j 0 = c.getD j 0 := fun j hj => by simp [List.getD_eq_getElem?_getD, List.getElem?_append_left hj]
  unfold stepAt
  rw [g i h, g (i - 1) (by omega)]
theorem runAt_app {c : List Int} {d : Int} {i : Nat} (h : i < c.length) : runAt (c ++ [d]) i = runAt c i := by
  have := runAt_take (c ++ [d]) c.length i h
  simp at this
  exact this.symm
theorem okTo_snoc (m : MkM) (c : List Int) (d : Int) : okTo m (c ++ [d]) = (okTo m c && (stepOk m c d && runOk m c d)) := by
  have h1 : (List.range c.length).all (fun i => decide ((runAt (c ++ [d]) i : Int) ≤ m.same) && stepAt m (c ++ [d]) i) = okTo m c := by
    unfold okTo
    rw [Bool.eq_iff_iff, List.all_eq_true, List.all_eq_true]
    constructor
    · intro h i hi
      have := h i hi
      rwa [runAt_app (List.mem_range.1 hi), stepAt_take (List.mem_range.1 hi)] at this
    · intro h i hi
      rw [runAt_app (List.mem_range.1 hi), stepAt_take (List.mem_range.1 hi)]
      exact h i hi
  have h2 : stepAt m (c ++ [d]) c.length = stepOk m c d := by
    unfold stepAt stepOk
    cases c with
    | nil => simp
    | cons x r =>
      have g1 : ((x :: r) ++ [d]).getD (x :: r).length 0 = d := by simp [List.getD_eq_getElem?_getD]
      have g2 : ((x :: r) ++ [d]).getD ((x :: r).length - 1) 0 = (x :: r).getD ((x :: r).length - 1) 0 := by
        simp only [List.getD_eq_getElem?_getD]
        rw [List.getElem?_append_left (by simp)]
      rw [g1, g2]
      simp
  rw [okTo, List.length_append, show c.length + [d].length = c.length + 1 by rfl, range_all_succ, h1, h2]
  unfold runOk
  cases okTo m c <;> cases stepOk m c d <;> simp
def keysTo (m : MkM) (n : Nat) (c : List Int) (D : Nat) : List (List Int) := (List.range D).flatMap fun (d : Nat) => if (stepOk m c (d : Int) && runOk m c (d : Int)) = true then keysFrom m n (c ++ [(d : Int)]) else []
theorem keysTo_succ (m : MkM) (n : Nat) (c : List Int) (D : Nat) : keysTo m n c (D + 1) = keysTo m n c D ++ if (stepOk m c (D : Int) && runOk m c (D : Int)) = true then keysFrom m n (c ++ [(D : Int)]) else [] := by
  rw [keysTo, List.range_succ, List.flatMap_append]
  simp [keysTo]
theorem keysTo_mem {m : MkM} {n : Nat} {c k : List Int} : ∀ {D : Nat}, k ∈ keysTo m n c D → ∃ d : Nat, d < D ∧ k.take (c.length + 1) = c ++ [(d : Int)]
  | 0, h => by cases h
  | D + 1, h => by
    rw [keysTo_succ, List.mem_append] at h
    rcases h with h | h
    · obtain ⟨d, h1, h2⟩ := keysTo_mem h; exact ⟨d, by omega, h2⟩
    · split at h
      · have := (keysFrom_mem m n _ k h).1
        exact ⟨D, by omega, by simpa using this⟩
      · cases h
theorem take_app {key : List Int} {i : Nat} (h : i < key.length) : key.take (i + 1) = key.take i ++ [key.getD i 0] := by
  rw [List.take_add_one]
  simp [List.getD_eq_getElem?_getD, h]
theorem okTo_take {m : MkM} {key : List Int} (h : okTo m key = true) : ∀ j, okTo m (key.take (key.length - j)) = true
  | 0 => by simpa using h
  | j + 1 => by
    have ih := okTo_take h j
    by_cases e : j < key.length
    · rw [show key.length - j = key.length - (j + 1) + 1 by omega, take_app (by omega), okTo_snoc] at ih
      simp only [Bool.and_eq_true] at ih
      exact ih.1
    · rw [show key.length - (j + 1) = key.length - j by omega]; exact ih
theorem okTo_take' {m : MkM} {key : List Int} (h : okTo m key = true) {i : Nat} (hi : i ≤ key.length) : okTo m (key.take i) = true := by
  have := okTo_take h (key.length - i)
  rwa [show key.length - (key.length - i) = i by omega] at this
theorem fault_out {m : MkM} {c : List Int} (h : fault m c = 0) : (c.length : Int) = m.chambers ∧ (∀ x ∈ c, 0 ≤ x ∧ x < m.depths) ∧ okTo m c = true ∧ ¬ (kindsTo c c.length : Int) < m.least := by
  unfold fault at h
  split at h
  · cases h
  · rename_i h1
    split at h
    · cases h
    · rename_i h2
      split at h
      · cases h
      · rename_i h3
        split at h
        · cases h
        · rename_i h4
          split at h
          · cases h
          · rename_i h5
            refine ⟨by omega, fun x hx => ?_, ?_, h5⟩
            · have := List.all_eq_true.1 (by simpa using h2) x hx
              simp [isIn] at this; omega
            · unfold okTo
              rw [List.all_eq_true]
              intro i hi
              have a3 := List.all_eq_true.1 (by simpa using h3) i hi
              have h4' : ((List.range c.length).all fun i => decide ((runAt c i : Int) ≤ m.same)) = true := by
                cases hh : ((List.range c.length).all fun i => decide ((runAt c i : Int) ≤ m.same)) with
                | true => rfl
                | false => exact absurd hh h4
              have a4 := List.all_eq_true.1 h4' i hi
              simp only [a3, a4, Bool.and_self]
end Go.Vc


set_option linter.unusedVariables false
set_option linter.unusedSimpArgs false
set_option linter.unnecessarySimpa false
namespace Go.Vc
set_option maxRecDepth 100000
def allK (m : MkM) : List (List Int) := keysFrom m m.chambers.toNat []
structure KeyOk (m : MkM) (k : List Int) : Prop where
  len : (k.length : Int) = m.chambers
  ok : okTo m k = true
  kinds : ¬ (kindsTo k k.length : Int) < m.least
  el : ∀ x ∈ k, 0 ≤ x ∧ x < m.depths
theorem keysFrom_ok {m : MkM} : ∀ (n : Nat) (c k : List Int), okTo m c = true → (∀ x ∈ c, 0 ≤ x ∧ x < m.depths) → k ∈ keysFrom m n c → k.length = c.length + n ∧ okTo m k = true ∧ ¬ (kindsTo k k.length : Int) < m.least ∧ ∀ x ∈ k, 0 ≤ x ∧ x < m.depths
  | 0, c, k, h1, h2, h => by
    simp only [keysFrom] at h
    split at h
    · cases h
    · rename_i hk
      rw [List.mem_singleton] at h
      subst h
      exact ⟨rfl, h1, hk, h2⟩
  | n + 1, c, k, h1, h2, h => by
    simp only [keysFrom, List.mem_flatMap, List.mem_range] at h
    obtain ⟨d, hd, h⟩ := h
    split at h
    · rename_i hc
      obtain ⟨g1, g2⟩ := keysFrom_ok n (c ++ [(d : Int)]) k (by rw [okTo_snoc, h1, Bool.true_and]; exact hc) (fun x hx => by
        rcases List.mem_append.1 hx with h | h
        · exact h2 x h
        · simp at h; omega) h
      exact ⟨by rw [g1]; simp; omega, g2⟩
    · cases h
theorem allK_ok {m : MkM} (hm : 0 ≤ m.chambers) {k : List Int} (h : k ∈ allK m) : KeyOk m k := by
  obtain ⟨h1, h2, h3, h4⟩ := keysFrom_ok m.chambers.toNat [] k rfl (fun x hx => by cases hx) h
  exact ⟨by rw [h1]; simp; omega, h2, h3, h4⟩
theorem KeyOk.of_fault {m : MkM} {k : List Int} (h : fault m k = 0) : KeyOk m k := by
  obtain ⟨h1, h2, h3, h4⟩ := fault_out h
  exact ⟨h1, h3, h4, h2⟩
theorem nodup_keysFrom {m : MkM} : ∀ (n : Nat) (c : List Int), (keysFrom m n c).Nodup
  | 0, c => by
    simp only [keysFrom]
    split
    · exact List.nodup_nil
    · simp
  | n + 1, c => by
    show (keysTo m n c m.depths.toNat).Nodup
    have key : ∀ D, (keysTo m n c D).Nodup := by
      intro D
      induction D with
      | zero => exact List.nodup_nil
      | succ D ih =>
        rw [keysTo_succ, List.nodup_append]
        refine ⟨ih, ?_, fun a ha b hb => ?_⟩
        · split
          · exact nodup_keysFrom n _
          · exact List.nodup_nil
        · rintro rfl
          obtain ⟨d, hd, g⟩ := keysTo_mem ha
          split at hb
          · have g2 := (keysFrom_mem m n _ a hb).1
            have e : (c ++ [(D : Int)]).length = c.length + 1 := by simp
            rw [e, g] at g2
            have := List.append_cancel_left g2
            injection this with this _
            omega
          · cases hb
    exact key _
end Go.Vc


set_option linter.unusedVariables false
set_option linter.unusedSimpArgs false
set_option linter.unnecessarySimpa false
namespace Go.Vc
open Go.Proofs
set_option maxRecDepth 100000
set_option maxHeartbeats 2000000
def okAt (m : MkM) (c : List Int) (i : Nat) : Bool := decide ((runAt c i : Int) ≤ m.same) && stepAt m c i
theorem c_l02Begins (m : MkM) (c : List Int) (hm : isMk m = true) (h : c.length ≤ 6) (hel : ∀ x ∈ c, 0 ≤ x ∧ x ≤ 7) : Fn Tryz.prog 70 [eMk m, eIs c] true (· = eB (okTo m c)) := by
  refine Fn.of_vcN 53 [.tmp 4] Tryz.func70 rfl rfl rfl rfl rfl (of_decide_eq_true rfl) ?_
  have hF : okTo m c = (List.range c.length).all (okAt m c) := rfl
  simp -dsimp -implicitDefEqProofs only [go_sem, ↓reduceIte]
  refine Later.up [1, 2] [9, 47] [] c.length (fun i => (List.range i).all (okAt m c) = true) (fun i => [(6, eI i), (5, eI (runTo c i))]) (fun _ => []) (by simp) ?_ rfl (fun i hi hI => ?_) (fun hI => ?_)
  · rw [show runTo c 0 = 0 from rfl]
    simp -dsimp -implicitDefEqProofs only [go_sem, ↓reduceIte]
    all_goals (first | omega | (refine ⟨?_, ?_⟩ <;> omega) | (simp; done) | (simp; omega) | (refine ⟨?_, ?_⟩ <;> omega) | rfl | (simp; done) | (simp_all; done) | (simp_all; omega) | (exfalso; simp_all [bne]; done) | trace_state)
  · have no : okAt m c i = false → okTo m c = false := fun h => by rw [hF]; exact range_all_no hi h
    have yes : okAt m c i = true → (List.range (i + 1)).all (okAt m c) = true := fun h => by rw [range_all_succ, hI, h]; rfl
    have hrb : runTo c i ≤ i ∧ runTo c (i + 1) ≤ i + 1 := by
      refine ⟨?_, (runAt_spec c i).2.1⟩
      rw [runTo]; split
      · omega
      · have := (runAt_spec c (i - 1)).2.1; omega
    have e1 := hel c[i] (List.getElem_mem hi)
    have gi := get_some hi
    have li := lt_len hi
    have hok : okAt m c i = (decide (((runTo c (i + 1) : Nat) : Int) ≤ m.same) && stepAt m c i) := rfl
    clear hF hI
    by_cases hi0 : 0 < i
    rotate_left
    · have g3 : decide ((i : Int) > 0) = false := by simp; omega
      have hR : runTo c i = 0 ∧ runTo c (i + 1) = 1 := by
        have e0 : i = 0 := by omega
        subst e0
        exact ⟨rfl, by show runAt c 0 = 1; unfold runAt; rfl⟩
      have hs : okAt m c i = true := by
        have e0 : i = 0 := by omega
        have := isMk_same hm
        rw [hok, hR.2]
        subst e0
        have : decide (((1 : Nat) : Int) ≤ m.same) = true := decide_eq_true (by omega)
        rw [this]; rfl
      have hsame : decide ((1 : Int) > m.same) = false := decide_eq_false (by have := isMk_same hm; omega)
      rw [hR.1, hR.2]
      clear hR hrb no
      have yes := yes hs
      simp -dsimp -implicitDefEqProofs only [pick_nil, pick_cons, look_nil, look_cons, dropB_nil, dropB_cons, inD_nil, inD_cons, inE_nil, inE_cons, or_t_l, or_f_l, Nat.reduceBEq, Nat.reduceDiv, Nat.reduceAdd, beq_self_eq_true, uq0, uq1, ↓reduceIte, Nat.reduceEqDiff, uq2, uq3]
      simp -dsimp -implicitDefEqProofs only [go_sem, ↓reduceIte, li, gi, g3]
      repeat' first
        | (refine Br.intro (fun _ => ?_) (fun _ => ?_) <;> try simp -dsimp -implicitDefEqProofs only [go_sem, ↓reduceIte, *])
        | (with_reducible refine And.intro ?_ ?_)
        | (refine Later.draw mixed rfl ?_; try simp -dsimp -implicitDefEqProofs only [go_sem, ↓reduceIte, li, gi, g3, hsame])
      all_goals first
        | exact yes
        | (first | omega | (refine ⟨?_, ?_⟩ <;> omega) | (simp; done) | (simp; omega) | (refine ⟨?_, ?_⟩ <;> omega) | rfl | (simp; done) | (simp_all; done) | (simp_all; omega) | (exfalso; simp_all [bne]; done) | trace_state)
    · have hi' : i - 1 < c.length := by omega
      have e2 := hel c[i - 1] (List.getElem_mem hi')
      have g2 : c[((i : Int) - 1).toNat]? = some c[i - 1] := by rw [pred_toNat hi0]; exact get_some hi'
      have g3 : decide ((i : Int) > 0) = true := by simp; omega
      have hs : stepAt m c i = !decide (absN (c[i] - c[i - 1]) > m.step) := by
        rw [stepAt, show (i == 0) = false by simp; omega]
        have q1 : c.getD i 0 = c[i] := by simp [List.getD_eq_getElem?_getD, hi]
        have q2 : c.getD (i - 1) 0 = c[i - 1] := by simp [List.getD_eq_getElem?_getD, hi']
        rw [q1, q2, Bool.false_or]
        by_cases hq : absN (c[i] - c[i - 1]) ≤ m.step
        · rw [decide_eq_true hq, decide_eq_false (by omega)]; rfl
        · rw [decide_eq_false hq, decide_eq_true (by omega)]; rfl
      have hR : ((runTo c (i + 1) : Nat) : Int) = if (c[i] == c[i - 1]) = true then (runTo c i : Int) + 1 else 0 + 1 := by
        obtain ⟨j, rfl⟩ : ∃ j, i = j + 1 := ⟨i - 1, by omega⟩
        rw [show runTo c (j + 1 + 1) = runAt c (j + 1) from rfl, show runTo c (j + 1) = runAt c j from rfl, runAt]
        simp only [Nat.add_sub_cancel]
        have q1 : c.getD (j + 1) 0 = c[j + 1] := by simp [List.getD_eq_getElem?_getD, hi]
        have q2 : c.getD j 0 = c[j] := by simp [List.getD_eq_getElem?_getD, show j < c.length by omega]
        rw [q1, q2]
        by_cases hq : c[j + 1] = c[j]
        · rw [if_pos hq, if_pos (by simpa using hq)]; simp
        · rw [if_neg hq, if_neg (by simpa using hq)]; simp
      have hok2 : okAt m c i = (!decide (((runTo c (i + 1) : Nat) : Int) > m.same) && !decide (absN (c[i] - c[i - 1]) > m.step)) := by
        rw [hok, hs]
        congr 1
        by_cases hq : ((runTo c (i + 1) : Nat) : Int) ≤ m.same
        · rw [decide_eq_true hq, decide_eq_false (by omega)]; rfl
        · rw [decide_eq_false hq, decide_eq_true (by omega)]; rfl
      clear hok hs
      rw [hok2] at no yes
      clear hok2
      have habs := c_l01Abs (c[i] - c[i - 1]) (by omega)
      rcases hq1 : (c[i] == c[i - 1]) with _ | _
      all_goals
        rw [hq1] at hR
        simp only [if_true, uq0, if_false] at hR
        have hne : (c[i] != c[i - 1]) = !(c[i] == c[i - 1]) := rfl
        rw [hq1] at hne
        rw [hR] at no yes
        rcases hq2 : decide (absN (c[i] - c[i - 1]) > m.step) with _ | _
      all_goals
        first
          | (rcases hq3 : decide ((runTo c i : Int) + 1 > m.same) with _ | _)
          | skip
      all_goals
        generalize runTo c i = R at *
        generalize runTo c (i + 1) = R' at *
        simp -dsimp -implicitDefEqProofs only [pick_nil, pick_cons, look_nil, look_cons, dropB_nil, dropB_cons, inD_nil, inD_cons, inE_nil, inE_cons, or_t_l, or_f_l, Nat.reduceBEq, Nat.reduceDiv, Nat.reduceAdd, beq_self_eq_true, uq0, uq1, ↓reduceIte, Nat.reduceEqDiff, uq2, uq3]
        try rw [hR]
        simp -dsimp -implicitDefEqProofs only [go_sem, ↓reduceIte, li, gi, g2, g3]
        repeat' first
          | (refine Br.intro (fun _ => ?_) (fun _ => ?_) <;> try simp -dsimp -implicitDefEqProofs only [go_sem, ↓reduceIte, *])
          | (with_reducible refine And.intro ?_ ?_)
          | (refine Later.draw mixed rfl ?_; try simp -dsimp -implicitDefEqProofs only [go_sem, ↓reduceIte, li, gi, g2, g3])
          | (refine sCallX_one (habs) ?_; try simp -dsimp -implicitDefEqProofs only [go_sem, ↓reduceIte, *])
        all_goals first
          | (rw [no (by simp_all)]; done)
          | (rw [← List.range_succ]; exact yes (by simp_all))
          | (first | omega | (refine ⟨?_, ?_⟩ <;> omega) | (simp; done) | (simp; omega) | (refine ⟨?_, ?_⟩ <;> omega) | rfl | (simp; done) | (simp_all; done) | (simp_all; omega) | (exfalso; simp_all [bne]; done) | trace_state)
  · rw [← hF] at hI
    rw [hI]
    simp -dsimp -implicitDefEqProofs only [pick_nil, pick_cons, look_nil, look_cons, dropB_nil, dropB_cons, inD_nil, inD_cons, inE_nil, inE_cons, or_t_l, or_f_l, Nat.reduceBEq, Nat.reduceDiv, Nat.reduceAdd, beq_self_eq_true, uq0, uq1, ↓reduceIte, Nat.reduceEqDiff, uq2, uq3]
    simp -dsimp -implicitDefEqProofs only [go_sem, ↓reduceIte, nlt_len]
end Go.Vc


set_option linter.unusedVariables false
set_option linter.unusedSimpArgs false
set_option linter.unnecessarySimpa false
namespace Go.Vc
open Go.Proofs
set_option maxRecDepth 100000
set_option maxHeartbeats 2000000
def firstD (f : Nat → Option (List Int)) : Nat → Option (List Int)
  | 0 => none
  | d + 1 => match firstD f d with
    | some k => some k
    | none => f d
def firstK (m : MkM) : Nat → List Int → Option (List Int)
  | 0, c => if okTo m c = true ∧ m.least ≤ (kindsTo c c.length : Int) then some c else none
  | n + 1, c => if okTo m c = true then firstD (fun (d : Nat) => firstK m n (c ++ [(d : Int)])) m.depths.toNat else none
theorem firstD_none {f : Nat → Option (List Int)} {D : Nat} (h : firstD f D = none) : firstD f (D + 1) = f D := by simp [firstD, h]
theorem firstD_some {f : Nat → Option (List Int)} {D : Nat} {k : List Int} (h : firstD f D = some k) : ∀ E, D ≤ E → firstD f E = some k
  | 0, hE => by rw [show D = 0 by omega] at h; cases h
  | E + 1, hE => by
    by_cases e : D = E + 1
    · rw [← e]; exact h
    · simp only [firstD]; rw [firstD_some h E (by omega)]
def optR (o : Option (List Int)) : AV := match o with
  | some k => .tup [eIs k, eB true]
  | none => .tup [.val (.slice none 0 0), eB false]
def firstR (m : MkM) (n : Nat) (c : List Int) (r : AV) : Prop := match firstK m n c with
  | some k => r = .tup [eIs k, eB true]
  | none => ∃ x, r = .tup [x, eB false] ∧ (x = .val (.slice none 0 0) ∨ x = eIs c)
theorem c_l02First (m : MkM) (hm : isMk m = true) : ∀ (n : Nat) (c : List Int), (c.length : Int) + n = m.chambers → (∀ x ∈ c, 0 ≤ x ∧ x ≤ 7) → Fn Tryz.prog 37 [eMk m, eIs c] false (firstR m n c) := by
  intro n
  have ⟨⟨hch1, hch2⟩, hd1, hd2⟩ := isMk_num hm
  induction n with
  | zero =>
    intro c hl hc
    refine Fn.of_vcS 42 [.tmp 4, .tmp 5] Tryz.func37 rfl rfl rfl rfl rfl (of_decide_eq_true rfl) ?_
    have hbe := c_l02Begins m c hm (by omega) hc
    have hk : ((c.length : Int) == m.chambers) = true := beq_iff_eq.2 (by omega)
    have hki := c_l02Kinds c (by omega)
    unfold firstR
    rcases hb : okTo m c with _ | _
    · have hcnt : firstK m 0 c = none := by rw [firstK, if_neg (by rw [hb]; exact fun h => by cases h.1)]
      rw [hb] at hbe
      rw [hcnt]
      clear hcnt hb
      simp -dsimp -implicitDefEqProofs only [go_sem, ↓reduceIte]
      (refine sCallT_one (hbe) ?_; try simp -dsimp -implicitDefEqProofs only [go_sem, ↓reduceIte, *])
      exact ⟨_, rfl, .inl rfl⟩
    · rw [hb] at hbe
      rcases hq : decide ((kindsTo c c.length : Int) ≥ m.least) with _ | _
      · have hcnt : firstK m 0 c = none := by rw [firstK, if_neg (fun h => by have := of_decide_eq_false hq; omega)]
        rw [hcnt]
        clear hcnt hb
        simp -dsimp -implicitDefEqProofs only [go_sem, ↓reduceIte]
        (refine sCallT_one (hbe) ?_; try simp -dsimp -implicitDefEqProofs only [go_sem, ↓reduceIte, *])
        refine Later.draw mixed rfl ?_
        simp -dsimp -implicitDefEqProofs only [go_sem, ↓reduceIte]
        (refine sCallX_one (hki) ?_; try simp -dsimp -implicitDefEqProofs only [go_sem, ↓reduceIte, *])
        exact ⟨by exact rfl, _, rfl, .inr rfl⟩
      · have hcnt : firstK m 0 c = some c := by rw [firstK, if_pos ⟨hb, by have := of_decide_eq_true hq; omega⟩]
        rw [hcnt]
        clear hcnt hb
        simp -dsimp -implicitDefEqProofs only [go_sem, ↓reduceIte]
        (refine sCallT_one (hbe) ?_; try simp -dsimp -implicitDefEqProofs only [go_sem, ↓reduceIte, *])
        refine Later.draw mixed rfl ?_
        simp -dsimp -implicitDefEqProofs only [go_sem, ↓reduceIte]
        (refine sCallX_one (hki) ?_; try simp -dsimp -implicitDefEqProofs only [go_sem, ↓reduceIte, *])
        exact rfl
  | succ n ih =>
    intro c hl hc
    refine Fn.of_vcS 42 [.tmp 4, .tmp 5] Tryz.func37 rfl rfl rfl rfl rfl (of_decide_eq_true rfl) ?_
    have hbe := c_l02Begins m c hm (by omega) hc
    have hk : ((c.length : Int) == m.chambers) = false := beq_eq_false_iff_ne.2 (by omega)
    unfold firstR
    rcases hb : okTo m c with _ | _
    · have hcnt : firstK m (n + 1) c = none := by rw [firstK, if_neg (by rw [hb]; exact fun h => by cases h)]
      rw [hb] at hbe
      rw [hcnt]
      clear hcnt hb
      simp -dsimp -implicitDefEqProofs only [go_sem, ↓reduceIte]
      (refine sCallT_one (hbe) ?_; try simp -dsimp -implicitDefEqProofs only [go_sem, ↓reduceIte, *])
      exact ⟨_, rfl, .inl rfl⟩
    · have hcnt : firstK m (n + 1) c = firstD (fun (d : Nat) => firstK m n (c ++ [(d : Int)])) m.depths.toNat := by rw [firstK, if_pos hb]
      rw [hb] at hbe
      rw [hcnt]
      clear hcnt hb
      have hown := c_l01Own c (by omega)
      simp -dsimp -implicitDefEqProofs only [go_sem, ↓reduceIte]
      (refine sCallT_one (hbe) ?_; try simp -dsimp -implicitDefEqProofs only [go_sem, ↓reduceIte, *])
      refine Later.up [1, 2] [33, 35, 36, 37] [] m.depths.toNat (fun i => firstD (fun (d : Nat) => firstK m n (c ++ [(d : Int)])) i = none) (fun i => [(6, eI i)]) (fun _ => []) rfl ?_ rfl (fun i hi hI => ?_) (fun hI => ?_)
      · simp -dsimp -implicitDefEqProofs only [go_sem, ↓reduceIte]
      · have hih := ih (c ++ [(i : Int)]) (by simp; omega) (fun x hx => by
          rcases List.mem_append.1 hx with h | h
          · exact hc x h
          · simp at h; omega)
        have hlt : decide ((i : Int) < m.depths) = true := decide_eq_true (by omega)
        have hmap : List.map eI c ++ [eI (i : Int)] = List.map eI (c ++ [(i : Int)]) := by simp
        have htk : List.take c.length (List.map eI c) = List.map eI c := List.take_of_length_le (by simp)
        have htl : List.take (c.length + 1) (List.map eI (c ++ [(i : Int)])) = List.map eI (c ++ [(i : Int)]) := List.take_of_length_le (by simp)
        have hnx := firstD_none hI
        have hend : ∀ k, firstK m n (c ++ [(i : Int)]) = some k → firstD (fun (d : Nat) => firstK m n (c ++ [(d : Int)])) m.depths.toNat = some k := fun k hk => firstD_some (hnx.trans hk) _ (by omega)
        rw [hnx]
        clear ih hI hnx
        unfold firstR at hih
        generalize firstK m n (c ++ [(i : Int)]) = F at *
        simp -dsimp -implicitDefEqProofs only [pick_nil, pick_cons, look_nil, look_cons, dropB_nil, dropB_cons, inD_nil, inD_cons, inE_nil, inE_cons, or_t_l, or_f_l, Nat.reduceBEq, Nat.reduceDiv, Nat.reduceAdd, beq_self_eq_true, uq0, uq1, ↓reduceIte, Nat.reduceEqDiff, uq2, uq3]
        simp -dsimp -implicitDefEqProofs only [go_sem, ↓reduceIte, hlt]
        refine Later.duo 6 mixed rfl ?_
        simp -dsimp -implicitDefEqProofs only [List.take_succ_cons, List.take_zero, List.drop_succ_cons, List.drop_zero]
        simp -dsimp -implicitDefEqProofs only [go_sem, ↓reduceIte]
        (refine sCallX_one (hown) ?_; try simp -dsimp -implicitDefEqProofs only [go_sem, ↓reduceIte, *])
        refine ⟨by omega, ?_⟩
        refine ⟨by exact rfl, ?_⟩
        refine sCallT_frz 34000 1 ⟨1, false⟩ true (List.map eI (c ++ [(i : Int)])) hih (by decide) ?_ ?_ fun r hr => ?_
        · simp -dsimp -implicitDefEqProofs only [go_sem, ↓reduceIte]
        · refine frzOk_no ?_ rfl ?_
          · simp -dsimp -implicitDefEqProofs only [go_sem, ↓reduceIte]
          · have h := frzOk_ref (l := 34000) (v := 1) (sh := ⟨1, false⟩) (ys := List.map eI (c ++ [(i : Int)])) (xs := []) (r := []) 0 (c.length + 1) (by simp) trivial
            rw [List.drop_zero, htl] at h
            exact h
        · cases F with
          | some k =>
            rw [hend k rfl]
            rw [show r = .tup [eIs k, eB true] from hr]
            clear hr hend
            simp -dsimp -implicitDefEqProofs only [go_sem, ↓reduceIte]
            exact rfl
          | none =>
            clear hend
            obtain ⟨x, rfl, hx⟩ := hr
            rcases hx with rfl | rfl
            · simp -dsimp -implicitDefEqProofs only [go_sem, ↓reduceIte]
              exact ⟨by exact rfl, ⟨by omega, by omega⟩, by simp⟩
            · simp -dsimp -implicitDefEqProofs only [go_sem, ↓reduceIte]
              exact ⟨by exact rfl, ⟨by omega, by omega⟩, by simp⟩
      · have hlt : decide (((m.depths.toNat : Nat) : Int) < m.depths) = false := decide_eq_false (by omega)
        rw [hI]
        clear hI
        simp -dsimp -implicitDefEqProofs only [pick_nil, pick_cons, look_nil, look_cons, dropB_nil, dropB_cons, inD_nil, inD_cons, inE_nil, inE_cons, or_t_l, or_f_l, Nat.reduceBEq, Nat.reduceDiv, Nat.reduceAdd, beq_self_eq_true, uq0, uq1, ↓reduceIte, Nat.reduceEqDiff, uq2, uq3]
        simp -dsimp -implicitDefEqProofs only [go_sem, ↓reduceIte, hlt]
        exact ⟨_, rfl, .inl rfl⟩
def nextTo (m : MkM) (c : List Int) : Nat → Option (List Int)
  | 0 => none
  | j + 1 => match nextTo m c j with
    | some k => some k
    | none => firstD (fun (e : Nat) => firstK m j (c.take (c.length - 1 - j) ++ [c.getD (c.length - 1 - j) 0 + 1 + (e : Int)])) (m.depths - (c.getD (c.length - 1 - j) 0 + 1)).toNat
theorem nextTo_none {m : MkM} {c : List Int} {j : Nat} (h : nextTo m c j = none) : nextTo m c (j + 1) = firstD (fun (e : Nat) => firstK m j (c.take (c.length - 1 - j) ++ [c.getD (c.length - 1 - j) 0 + 1 + (e : Int)])) (m.depths - (c.getD (c.length - 1 - j) 0 + 1)).toNat := by simp [nextTo, h]
theorem nextTo_some {m : MkM} {c k : List Int} {j : Nat} (h : nextTo m c j = some k) : ∀ E, j ≤ E → nextTo m c E = some k
  | 0, hE => by rw [show j = 0 by omega] at h; cases h
  | E + 1, hE => by
    by_cases e : j = E + 1
    · rw [← e]; exact h
    · simp only [nextTo]; rw [nextTo_some h E (by omega)]
theorem c_l02Next (m : MkM) (c : List Int) (hm : isMk m = true) (hl : (c.length : Int) = m.chambers) (hc : ∀ x ∈ c, 0 ≤ x ∧ x < m.depths) : Fn Tryz.prog 39 [eMk m, eIs c] false (· = optR (nextTo m c c.length)) := by
  have ⟨⟨hch1, hch2⟩, hd1, hd2⟩ := isMk_num hm
  refine Fn.of_vcS 42 [.tmp 4, .tmp 5] Tryz.func39 rfl rfl rfl rfl rfl (of_decide_eq_true rfl) ?_
  simp -dsimp -implicitDefEqProofs only [go_sem, ↓reduceIte]
  refine ⟨⟨by omega, by omega⟩, ?_⟩
  refine Later.up [1, 2] [33, 35, 36, 37] [] c.length (fun j => nextTo m c j = none) (fun j => [(6, eI ((c.length : Int) - 1 - (j : Int)))]) (fun _ => []) rfl ?_ rfl (fun j hj hJ => ?_) (fun hJ => ?_)
  · simp -dsimp -implicitDefEqProofs only [go_sem, ↓reduceIte]
    all_goals first | (simp; done) | trace_state
  · have hlt : decide ((c.length : Int) - 1 - (j : Int) ≥ 0) = true := decide_eq_true (by omega)
    have hnx := nextTo_none hJ
    have hend : ∀ k, nextTo m c (j + 1) = some k → nextTo m c c.length = some k := fun k hk => nextTo_some hk _ (by omega)
    have hi : c.length - 1 - j < c.length := by omega
    have hcast : (c.length : Int) - 1 - (j : Int) = ((c.length - 1 - j : Nat) : Int) := by omega
    have hx := hc c[c.length - 1 - j] (List.getElem_mem hi)
    have hgd : c.getD (c.length - 1 - j) 0 = c[c.length - 1 - j] := by simp [List.getD_eq_getElem?_getD, hi]
    have gi := get_some hi
    have hneg : (c.length : Int) - 1 - ((j + 1 : Nat) : Int) = ((c.length - 1 - j : Nat) : Int) - 1 := by omega
    rw [hgd] at hnx
    rw [hcast] at hlt
    rw [hcast, hneg]
    clear hJ hcast hgd hneg
    generalize hI : c.length - 1 - j = i at *
    generalize c[i] = z at *
    rw [hnx]
    have hend' : ∀ k, firstD (fun (e : Nat) => firstK m j (c.take i ++ [z + 1 + (e : Int)])) (m.depths - (z + 1)).toNat = some k → nextTo m c c.length = some k := fun k hk => hend k (hnx.trans hk)
    clear hnx hend
    simp -dsimp -implicitDefEqProofs only [pick_nil, pick_cons, look_nil, look_cons, dropB_nil, dropB_cons, inD_nil, inD_cons, inE_nil, inE_cons, or_t_l, or_f_l, Nat.reduceBEq, Nat.reduceDiv, Nat.reduceAdd, beq_self_eq_true, uq0, uq1, ↓reduceIte, Nat.reduceEqDiff, uq2, uq3]
    simp -dsimp -implicitDefEqProofs only [go_sem, ↓reduceIte, hlt, gi]
    refine ⟨by omega, ⟨by omega, by omega⟩, ?_⟩
    refine Later.up [1, 2, 6] [33, 35, 36, 37] [] (m.depths - (z + 1)).toNat (fun e => firstD (fun (e : Nat) => firstK m j (c.take i ++ [z + 1 + (e : Int)])) e = none) (fun e => [(7, eI (z + 1 + (e : Int)))]) (fun _ => []) rfl ?_ rfl (fun e he hE => ?_) (fun hE => ?_)
    · simp -dsimp -implicitDefEqProofs only [go_sem, ↓reduceIte]
      all_goals first | (simp; done) | trace_state
    · have hlt2 : decide (z + 1 + (e : Int) < m.depths) = true := decide_eq_true (by omega)
      have hlenT : (c.take i).length = i := by simp; omega
      have hih := c_l02First m hm j (c.take i ++ [z + 1 + (e : Int)]) (by simp; omega) (fun x hx2 => by
        rcases List.mem_append.1 hx2 with h | h
        · have := hc x (List.mem_of_mem_take h); omega
        · simp at h; omega)
      have hown := c_l01Own (c.take i) (by omega)
      have htk : List.take i (List.map eI c) = List.map eI (c.take i) := List.map_take.symm
      have hnx := firstD_none hE
      have hend2 : ∀ k, firstK m j (c.take i ++ [z + 1 + (e : Int)]) = some k → nextTo m c c.length = some k := fun k hk => hend' k (firstD_some (hnx.trans hk) _ (by omega))
      rw [hnx]
      clear hE hnx hend' hc
      unfold firstR at hih
      generalize c.take i = T at *
      have hmap : List.map eI T ++ [eI (z + 1 + (e : Int))] = List.map eI (T ++ [z + 1 + (e : Int)]) := by simp
      have htl : List.take (i + 1) (List.map eI (T ++ [z + 1 + (e : Int)])) = List.map eI (T ++ [z + 1 + (e : Int)]) := List.take_of_length_le (by simp; omega)
      have htl2 : List.take i (List.map eI T) = List.map eI T := List.take_of_length_le (by simp; omega)
      generalize firstK m j (T ++ [z + 1 + (e : Int)]) = F at *
      simp -dsimp -implicitDefEqProofs only [pick_nil, pick_cons, look_nil, look_cons, dropB_nil, dropB_cons, inD_nil, inD_cons, inE_nil, inE_cons, or_t_l, or_f_l, Nat.reduceBEq, Nat.reduceDiv, Nat.reduceAdd, beq_self_eq_true, uq0, uq1, ↓reduceIte, Nat.reduceEqDiff, uq2, uq3]
      simp -dsimp -implicitDefEqProofs only [go_sem, ↓reduceIte, hlt2]
      refine Later.duo 8 mixed rfl ?_
      simp -dsimp -implicitDefEqProofs only [List.take_succ_cons, List.take_zero, List.drop_succ_cons, List.drop_zero]
      simp -dsimp -implicitDefEqProofs only [go_sem, ↓reduceIte, htk]
      refine ⟨by omega, ?_⟩
      (refine sCallX_one (hown) ?_; try simp -dsimp -implicitDefEqProofs only [go_sem, ↓reduceIte, *])
      refine ⟨by omega, ?_⟩
      refine ⟨by exact rfl, ?_⟩
      refine sCallT_frz 34000 1 ⟨1, false⟩ true (List.map eI (T ++ [z + 1 + (e : Int)])) hih (by decide) ?_ ?_ fun r hr => ?_
      · simp -dsimp -implicitDefEqProofs only [go_sem, ↓reduceIte]
      · refine frzOk_no ?_ rfl ?_
        · simp -dsimp -implicitDefEqProofs only [go_sem, ↓reduceIte]
        · have h := frzOk_ref (l := 34000) (v := 1) (sh := ⟨1, false⟩) (ys := List.map eI (T ++ [z + 1 + (e : Int)])) (xs := []) (r := []) 0 (i + 1) (by simp; omega) trivial
          rw [List.drop_zero, htl] at h
          exact h
      · cases F with
        | some k =>
          rw [hend2 k rfl]
          rw [show r = .tup [eIs k, eB true] from hr]
          clear hr hend2
          simp -dsimp -implicitDefEqProofs only [go_sem, ↓reduceIte, optR]
          exact rfl
        | none =>
          clear hend2
          obtain ⟨x, rfl, hx⟩ := hr
          rcases hx with rfl | rfl
          · simp -dsimp -implicitDefEqProofs only [go_sem, ↓reduceIte]
            exact ⟨by exact rfl, ⟨by omega, by omega⟩, by simp; omega⟩
          · simp -dsimp -implicitDefEqProofs only [go_sem, ↓reduceIte]
            exact ⟨by exact rfl, ⟨by omega, by omega⟩, by simp; omega⟩
    · have hlt2 : decide (z + 1 + (((m.depths - (z + 1)).toNat : Nat) : Int) < m.depths) = false := decide_eq_false (by omega)
      rw [hE]
      simp -dsimp -implicitDefEqProofs only [pick_nil, pick_cons, look_nil, look_cons, dropB_nil, dropB_cons, inD_nil, inD_cons, inE_nil, inE_cons, or_t_l, or_f_l, Nat.reduceBEq, Nat.reduceDiv, Nat.reduceAdd, beq_self_eq_true, uq0, uq1, ↓reduceIte, Nat.reduceEqDiff, uq2, uq3]
      simp -dsimp -implicitDefEqProofs only [go_sem, ↓reduceIte, hlt2]
      first | exact ⟨by omega, by omega⟩ | trace_state
  · have hlt : decide ((c.length : Int) - 1 - (c.length : Int) ≥ 0) = false := decide_eq_false (by omega)
    rw [hJ]
    clear hJ
    simp -dsimp -implicitDefEqProofs only [pick_nil, pick_cons, look_nil, look_cons, dropB_nil, dropB_cons, inD_nil, inD_cons, inE_nil, inE_cons, or_t_l, or_f_l, Nat.reduceBEq, Nat.reduceDiv, Nat.reduceAdd, beq_self_eq_true, uq0, uq1, ↓reduceIte, Nat.reduceEqDiff, uq2, uq3]
    simp -dsimp -implicitDefEqProofs only [go_sem, ↓reduceIte, hlt, optR]
end Go.Vc


set_option linter.unusedVariables false
set_option linter.unusedSimpArgs false
set_option linter.unnecessarySimpa false
namespace Go.Vc
open Go.Proofs
set_option maxRecDepth 100000
theorem firstD_congr {f g : Nat → Option (List Int)} : ∀ {D : Nat}, (∀ d, d < D → f d = g d) → firstD f D = firstD g D
  | 0, _ => rfl
  | D + 1, h => by
    simp only [firstD]
    rw [firstD_congr (D := D) (fun d hd => h d (by omega)), h D (by omega)]
theorem head_flat (F : Nat → List (List Int)) : ∀ D, firstD (fun d => (F d).head?) D = ((List.range D).flatMap F).head?
  | 0 => rfl
  | D + 1 => by
    rw [List.range_succ, List.flatMap_append, List.head?_append, ← head_flat F D]
    simp only [firstD, List.flatMap_cons, List.flatMap_nil, List.append_nil]
    cases firstD (fun d => (F d).head?) D <;> rfl
theorem firstK_head (m : MkM) : ∀ (n : Nat) (c : List Int), firstK m n c = if okTo m c = true then (keysFrom m n c).head? else none
  | 0, c => by
    simp only [firstK, keysFrom]
    by_cases h1 : okTo m c = true
    · rw [if_pos h1]
      by_cases h2 : m.least ≤ (kindsTo c c.length : Int)
      · rw [if_pos ⟨h1, h2⟩, if_neg (by omega)]; rfl
      · rw [if_neg (fun h => h2 h.2), if_pos (by omega)]; rfl
    · rw [if_neg (fun h => h1 h.1), if_neg h1]
  | n + 1, c => by
    simp only [firstK]
    by_cases h1 : okTo m c = true
    · rw [if_pos h1, if_pos h1]
      simp only [keysFrom]
      rw [← head_flat]
      refine firstD_congr fun d _ => ?_
      rw [firstK_head m n, okTo_snoc, h1, Bool.true_and]
      split <;> rfl
    · rw [if_neg h1, if_neg h1]
theorem flatMap_range_split (F : Nat → List (List Int)) (a : Nat) : ∀ b, (List.range (a + b)).flatMap F = (List.range a).flatMap F ++ (List.range b).flatMap fun e => F (a + e)
  | 0 => by simp
  | b + 1 => by
    rw [show a + (b + 1) = (a + b) + 1 by omega, List.range_succ, List.flatMap_append, flatMap_range_split F a b, List.range_succ, List.flatMap_append]
    simp
theorem next_behind {m : MkM} {k : List Int} (h : KeyOk m k) : ∀ j, j ≤ k.length → ∃ a b, keysFrom m j (k.take (k.length - j)) = a ++ k :: b ∧ nextTo m k j = b.head?
  | 0, _ => by
    obtain ⟨h1, h2, h3, h4⟩ := h
    refine ⟨[], [], ?_, rfl⟩
    rw [Nat.sub_zero, List.take_length, keysFrom, if_neg h3]; rfl
  | j + 1, hj => by
    obtain ⟨a, b, e1, e2⟩ := next_behind h j (by omega)
    obtain ⟨h1, h2, h3, h4⟩ := h
    have hi : k.length - 1 - j < k.length := by omega
    have hx := h4 _ (List.getElem_mem hi)
    have hg : k.getD (k.length - 1 - j) 0 = k[k.length - 1 - j] := by simp [List.getD_eq_getElem?_getD, hi]
    have ht := take_app hi
    rw [show k.length - 1 - j + 1 = k.length - j by omega, hg] at ht
    have hok := okTo_take' h2 (i := k.length - j) (by omega)
    rw [ht, okTo_snoc] at hok
    obtain ⟨hok1, hok2⟩ := Bool.and_eq_true_iff.1 hok
    have hnx : nextTo m k (j + 1) = match nextTo m k j with
      | some k => some k
      | none => firstD (fun (e : Nat) => firstK m j (k.take (k.length - 1 - j) ++ [k[k.length - 1 - j] + 1 + (e : Int)])) (m.depths - (k[k.length - 1 - j] + 1)).toNat := by
      simp only [nextTo, hg] <;> cases nextTo m k j <;> rfl
    rw [show k.length - (j + 1) = k.length - 1 - j by omega]
    generalize k[k.length - 1 - j] = z at *
    generalize hp : k.take (k.length - 1 - j) = p at *
    rw [ht] at e1
    have hz : z = ((z.toNat : Nat) : Int) := by omega
    have hsp : m.depths.toNat = z.toNat + (1 + (m.depths - (z + 1)).toNat) := by omega
    let F : Nat → List (List Int) := fun d => if (stepOk m p (d : Int) && runOk m p (d : Int)) = true then keysFrom m j (p ++ [(d : Int)]) else []
    have hF : F z.toNat = a ++ k :: b := by
      show (if (stepOk m p ((z.toNat : Nat) : Int) && runOk m p ((z.toNat : Nat) : Int)) = true then keysFrom m j (p ++ [((z.toNat : Nat) : Int)]) else []) = _
      rw [← hz, if_pos hok2, e1]
    have hk : keysFrom m (j + 1) p = (List.range z.toNat).flatMap F ++ (F z.toNat ++ (List.range (m.depths - (z + 1)).toNat).flatMap fun e => F (z.toNat + (1 + e))) := by
      show (List.range m.depths.toNat).flatMap F = _
      rw [hsp, flatMap_range_split, flatMap_range_split (fun e => F (z.toNat + e)) 1]
      simp [List.range_succ]
    refine ⟨(List.range z.toNat).flatMap F ++ a, b ++ (List.range (m.depths - (z + 1)).toNat).flatMap fun e => F (z.toNat + (1 + e)), ?_, ?_⟩
    · rw [hk, hF]; simp
    · rw [hnx, e2, List.head?_append, ← head_flat]
      cases b.head? with
      | some x => rfl
      | none =>
        show firstD _ _ = _
        simp only [Option.none_or]
        refine firstD_congr fun e _ => ?_
        rw [firstK_head, okTo_snoc, hok1, Bool.true_and]
        have : z + 1 + (e : Int) = ((z.toNat + (1 + e) : Nat) : Int) := by omega
        rw [this]
        show _ = (if (stepOk m p ((z.toNat + (1 + e) : Nat) : Int) && runOk m p ((z.toNat + (1 + e) : Nat) : Int)) = true then keysFrom m j (p ++ [((z.toNat + (1 + e) : Nat) : Int)]) else []).head?
        split <;> rfl
theorem nextTo_all {m : MkM} (hm : 0 ≤ m.chambers) {a b : List (List Int)} {k : List Int} (h : allK m = a ++ k :: b) : nextTo m k k.length = b.head? := by
  have hk : k ∈ allK m := by rw [h]; simp
  have hok := allK_ok hm hk
  obtain ⟨a', b', e1, e2⟩ := next_behind hok k.length (Nat.le_refl _)
  rw [Nat.sub_self, List.take_zero] at e1
  have hl : m.chambers.toNat = k.length := by have := hok.len; omega
  have e1' : allK m = a' ++ k :: b' := by rw [allK, hl]; exact e1
  have hn := nodup_keysFrom (m := m) m.chambers.toNat []
  rw [show keysFrom m m.chambers.toNat [] = allK m from rfl, h] at hn
  rw [h] at e1'
  have : a = a' ∧ k :: b = k :: b' := by
    have key : ∀ (a a' b b' : List (List Int)), a ++ k :: b = a' ++ k :: b' → (a ++ k :: b).Nodup → a = a' ∧ b = b' := by
      intro a
      induction a with
      | nil =>
        intro a' b b' h hn
        cases a' with
        | nil => exact ⟨rfl, by simpa using h⟩
        | cons x r =>
          simp only [uq3, uq2, List.cons.injEq] at h
          obtain ⟨rfl, h⟩ := h
          simp only [uq3, List.nodup_cons] at hn
          exact absurd (by rw [h]; simp) hn.1
      | cons x r ih =>
        intro a' b b' h hn
        cases a' with
        | nil =>
          simp only [uq3, uq2, List.cons.injEq] at h
          obtain ⟨rfl, h⟩ := h
          simp only [uq2, List.nodup_cons] at hn
          exact absurd (by simp) hn.1
        | cons x' r' =>
          simp only [uq2, List.cons.injEq] at h
          obtain ⟨rfl, h⟩ := h
          simp only [uq2, List.nodup_cons] at hn
          obtain ⟨h1, h2⟩ := ih r' b b' h hn.2
          exact ⟨by rw [h1], h2⟩
    obtain ⟨h1, h2⟩ := key a a' b b' e1' hn
    exact ⟨h1, by rw [h2]⟩
  rw [e2]
  have := this.2
  simp only [List.cons.injEq, true_and] at this
  rw [this]
theorem firstK_all (m : MkM) : firstK m m.chambers.toNat [] = (allK m).head? := by
  rw [firstK_head, if_pos (show okTo m [] = true from rfl)]; rfl
end Go.Vc


set_option linter.unusedVariables false
set_option linter.unusedSimpArgs false
set_option linter.unnecessarySimpa false
namespace Go.Vc
open Go.Proofs
set_option maxRecDepth 100000
def key1 (m : MkM) (c : List Int) : Bool := fault m c == 0
theorem c_isKey (m : MkM) (c : List Int) (hm : isMk m = true) (h : c.length ≤ 1048576) : Fn Tryz.prog 160 [eMk m, eIs c] true (· = eB (key1 m c)) := by
  refine Fn.of_vcN 9 [.tmp 4] Tryz.func160 rfl rfl rfl rfl rfl (of_decide_eq_true rfl) ?_
  simp -dsimp -implicitDefEqProofs only [go_sem, ↓reduceIte]
  repeat' first
    | (refine Br.intro (fun _ => ?_) (fun _ => ?_) <;> try simp -dsimp -implicitDefEqProofs only [go_sem, ↓reduceIte, *])
    | (with_reducible refine And.intro ?_ ?_)
    | (refine sCallT_one (c_keyFault m c hm h) ?_; try simp -dsimp -implicitDefEqProofs only [go_sem, ↓reduceIte, *])
  all_goals first | omega | (refine ⟨?_, ?_⟩ <;> omega) | rfl | (simp; done) | (simp_all [key1]; done) | (simp_all [key1]; omega) | (simp_all [key1]; split <;> simp_all <;> omega) | trace_state
theorem c_l04Keys (m : MkM) (ks : List (List Int)) (hm : isMk m = true) (h : ks.length ≤ 1048576) (h2 : ∀ x ∈ ks, x.length ≤ 1048576) : Fn Tryz.prog 157 [eMk m, eIss ks] true (· = eB (ks.all (key1 m) && decide ((ks.length : Int) ≤ 300))) := by
  refine Fn.of_vcN 22 [.tmp 4] Tryz.func157 rfl rfl rfl rfl rfl (of_decide_eq_true rfl) ?_
  simp -dsimp -implicitDefEqProofs only [go_sem, ↓reduceIte]
  refine Later.up [1, 2] [8, 17] [] ks.length (fun i => (ks.take i).all (key1 m)) (fun i => [(5, eI i)]) (fun _ => []) (by simp) ?_ rfl (fun i hi hI => ?_) (fun hI => ?_)
  · simp -dsimp -implicitDefEqProofs only [go_sem, ↓reduceIte]
  · have gi := get_some hi
    have li := lt_len hi
    have no : key1 m ks[i] = false → ks.all (key1 m) = false := fun h => all_no hi h
    have yes : key1 m ks[i] = true → (ks.take (i + 1)).all (key1 m) = true := fun h => by rw [all_take _ _ _ hi, hI, h]; rfl
    have yes' : (fault m ks[i] != 0) = false → (ks.take (i + 1)).all (key1 m) = true := fun h => yes (by simpa [key1] using h)
    have no' : (fault m ks[i] != 0) = true → ks.all (key1 m) = false := fun h => no (by simpa [key1] using h)
    have hc := c_l02Fault m ks[i] hm (h2 _ (List.getElem_mem hi))
    clear no yes hI
    simp -dsimp -implicitDefEqProofs only [pick_nil, pick_cons, look_nil, look_cons, dropB_nil, dropB_cons, inD_nil, inD_cons, inE_nil, inE_cons, or_t_l, or_f_l, Nat.reduceBEq, Nat.reduceDiv, Nat.reduceAdd, beq_self_eq_true, uq0, uq1, ↓reduceIte, Nat.reduceEqDiff, uq2, uq3]
    simp -dsimp -implicitDefEqProofs only [go_sem, ↓reduceIte, li, gi]
    repeat' first
      | (refine Br.intro (fun _ => ?_) (fun _ => ?_) <;> try simp -dsimp -implicitDefEqProofs only [go_sem, ↓reduceIte, *])
      | (with_reducible refine And.intro ?_ ?_)
      | (refine Later.draw mixed rfl ?_; try simp -dsimp -implicitDefEqProofs only [go_sem, ↓reduceIte, li, gi])
      | (refine sCallX_one (hc) ?_; try simp -dsimp -implicitDefEqProofs only [go_sem, ↓reduceIte, *])
    all_goals first
      | (rw [no' (by assumption)]; rfl)
      | (exact yes' (by assumption))
      | (first | omega | (refine ⟨?_, ?_⟩ <;> omega) | (simp; done) | (simp; omega) | (refine ⟨?_, ?_⟩ <;> omega) | rfl | (simp; done) | (simp_all; done) | (simp_all; omega) | (exfalso; simp_all [bne]; done) | trace_state)
  · rw [List.take_length] at hI
    rw [hI]
    simp -dsimp -implicitDefEqProofs only [pick_nil, pick_cons, look_nil, look_cons, dropB_nil, dropB_cons, inD_nil, inD_cons, inE_nil, inE_cons, or_t_l, or_f_l, Nat.reduceBEq, Nat.reduceDiv, Nat.reduceAdd, beq_self_eq_true, uq0, uq1, ↓reduceIte, Nat.reduceEqDiff, uq2, uq3]
    simp -dsimp -implicitDefEqProofs only [go_sem, ↓reduceIte, nlt_len]
    all_goals (first | omega | (refine ⟨?_, ?_⟩ <;> omega) | (simp; done) | (simp; omega) | (refine ⟨?_, ?_⟩ <;> omega) | rfl | (simp; done) | (simp_all; done) | (simp_all; omega) | (exfalso; simp_all [bne]; done) | trace_state)
set_option maxHeartbeats 4000000 in
theorem c_areKeys (m : MkM) (ks : List (List Int)) (hm : isMk m = true) (h : ks.length ≤ 1048576) (h2 : ∀ x ∈ ks, x.length ≤ 1048576) : Fn Tryz.prog 138 [eMk m, eIss ks] true (· = eB (ks.all (key1 m))) := by
  refine Fn.of_vcN 9 [.tmp 4] Tryz.func138 rfl rfl rfl rfl rfl (of_decide_eq_true rfl) ?_
  have hyes : (∀ i (hi : i < ks.length), key1 m ks[i] = true) → ks.all (key1 m) = true := fun h => List.all_eq_true.2 fun x hx => by
    obtain ⟨i, hi, rfl⟩ := List.getElem_of_mem hx
    exact h i hi
  have hno : ∀ i (hi : i < ks.length), key1 m ks[i] = false → ks.all (key1 m) = false := fun i hi h => all_no hi h
  generalize ks.all (key1 m) = ok at hyes hno
  simp -dsimp -implicitDefEqProofs only [go_sem, ↓reduceIte]
  ((repeat' (first | (refine Br.intro (fun _ => ?_) (fun _ => ?_) <;> try simp -dsimp -implicitDefEqProofs only [go_sem, ↓reduceIte, *]) | (with_reducible refine And.intro ?_ ?_) | (refine Later.draw mixed rfl ?_; try simp -dsimp -implicitDefEqProofs only [go_sem, ↓reduceIte, *]))); all_goals try (first | omega | (refine ⟨?_, ?_⟩ <;> omega) | (exact rfl) | (simp; done)))
  refine sCallT_inl 400000 9 [.tmp 4] Tryz.func158 rfl rfl rfl rfl rfl (by exact of_decide_eq_true rfl) ?_
  simp -dsimp -implicitDefEqProofs only [go_sem, ↓reduceIte]
  refine sCallT_inl 410000 19 [.tmp 4] Tryz.func170 rfl rfl rfl rfl rfl (by exact of_decide_eq_true rfl) ?_
  simp -dsimp -implicitDefEqProofs only [go_sem, ↓reduceIte]
  refine Later.up [0, 1, 7] [16] [] ks.length (fun i => ∀ j (hj : j < ks.length), j < i → key1 m ks[j] = true) (fun i => [(8, eI i)]) (fun _ => []) (fun j _ h => absurd h (Nat.not_lt_zero _)) ?_ rfl (fun i hi hI => ?_) (fun hI => ?_)
  · simp -dsimp -implicitDefEqProofs only [go_sem, ↓reduceIte]
    all_goals first | (simp; done) | trace_state
  · have gi := get_some hi
    have li := lt_len hi
    have hc := c_isKey m ks[i] hm (h2 _ (List.getElem_mem hi))
    rcases hv : key1 m ks[i] with _ | _
    · rw [hv] at hc
      have hn := hno i hi hv
      clear hno hyes hI hv
      subst hn
      simp -dsimp -implicitDefEqProofs only [pick_nil, pick_cons, look_nil, look_cons, dropB_nil, dropB_cons, inD_nil, inD_cons, inE_nil, inE_cons, or_t_l, or_f_l, Nat.reduceBEq, Nat.reduceDiv, Nat.reduceAdd, beq_self_eq_true, uq0, uq1, ↓reduceIte, Nat.reduceEqDiff, uq2, uq3]
      simp -dsimp -implicitDefEqProofs only [go_sem, ↓reduceIte, gi, li]
      refine ⟨⟨by omega, by omega⟩, ?_⟩
      refine sCallT_inl 420000 8 [.tmp 3] Tryz.func159 rfl rfl rfl rfl rfl (by exact of_decide_eq_true rfl) ?_
      simp -dsimp -implicitDefEqProofs only [go_sem, ↓reduceIte]
      repeat' first
        | (with_reducible refine And.intro ?_ ?_)
        | (refine sCallT_one (hc) ?_; try simp -dsimp -implicitDefEqProofs only [go_sem, ↓reduceIte, *])
      ((repeat' (first | (refine Br.intro (fun _ => ?_) (fun _ => ?_) <;> try simp -dsimp -implicitDefEqProofs only [go_sem, ↓reduceIte, *]) | (with_reducible refine And.intro ?_ ?_) | (refine Later.draw mixed rfl ?_; try simp -dsimp -implicitDefEqProofs only [go_sem, ↓reduceIte, *]))); all_goals try (first | omega | (refine ⟨?_, ?_⟩ <;> omega) | (exact rfl) | (simp; done)))
      all_goals first
        | (rename_i h; exact absurd (of_decide_eq_false h) (by omega))
        | (first | omega | (refine ⟨?_, ?_⟩ <;> omega) | (simp; done) | (simp; omega) | (refine ⟨?_, ?_⟩ <;> omega) | rfl | (simp; done) | (simp_all; done) | (simp_all; omega) | (exfalso; simp_all [bne]; done) | trace_state)
    · rw [hv] at hc
      have hI' : ∀ j (hj : j < ks.length), j < i + 1 → key1 m ks[j] = true := fun j hj h => by
        by_cases hji : j = i
        · subst hji; exact hv
        · exact hI j hj (by omega)
      clear hno hyes hI hv
      simp -dsimp -implicitDefEqProofs only [pick_nil, pick_cons, look_nil, look_cons, dropB_nil, dropB_cons, inD_nil, inD_cons, inE_nil, inE_cons, or_t_l, or_f_l, Nat.reduceBEq, Nat.reduceDiv, Nat.reduceAdd, beq_self_eq_true, uq0, uq1, ↓reduceIte, Nat.reduceEqDiff, uq2, uq3]
      simp -dsimp -implicitDefEqProofs only [go_sem, ↓reduceIte, gi, li]
      refine ⟨⟨by omega, by omega⟩, ?_⟩
      refine sCallT_inl 420000 8 [.tmp 3] Tryz.func159 rfl rfl rfl rfl rfl (by exact of_decide_eq_true rfl) ?_
      simp -dsimp -implicitDefEqProofs only [go_sem, ↓reduceIte]
      repeat' first
        | (with_reducible refine And.intro ?_ ?_)
        | (refine sCallT_one (hc) ?_; try simp -dsimp -implicitDefEqProofs only [go_sem, ↓reduceIte, *])
      ((repeat' (first | (refine Br.intro (fun _ => ?_) (fun _ => ?_) <;> try simp -dsimp -implicitDefEqProofs only [go_sem, ↓reduceIte, *]) | (with_reducible refine And.intro ?_ ?_) | (refine Later.draw mixed rfl ?_; try simp -dsimp -implicitDefEqProofs only [go_sem, ↓reduceIte, *]))); all_goals try (first | omega | (refine ⟨?_, ?_⟩ <;> omega) | (exact rfl) | (simp; done)))
      all_goals first
        | exact hI'
        | (first | omega | (refine ⟨?_, ?_⟩ <;> omega) | (simp; done) | (simp; omega) | (refine ⟨?_, ?_⟩ <;> omega) | rfl | (simp; done) | (simp_all; done) | (simp_all; omega) | (exfalso; simp_all [bne]; done) | trace_state)
  · have hn := hyes fun j hj => hI j hj hj
    clear hno hyes hI
    subst hn
    simp -dsimp -implicitDefEqProofs only [pick_nil, pick_cons, look_nil, look_cons, dropB_nil, dropB_cons, inD_nil, inD_cons, inE_nil, inE_cons, or_t_l, or_f_l, Nat.reduceBEq, Nat.reduceDiv, Nat.reduceAdd, beq_self_eq_true, uq0, uq1, ↓reduceIte, Nat.reduceEqDiff, uq2, uq3]
    simp -dsimp -implicitDefEqProofs only [go_sem, ↓reduceIte, nlt_len]
    ((repeat' (first | (refine Br.intro (fun _ => ?_) (fun _ => ?_) <;> try simp -dsimp -implicitDefEqProofs only [go_sem, ↓reduceIte, *]) | (with_reducible refine And.intro ?_ ?_) | (refine Later.draw mixed rfl ?_; try simp -dsimp -implicitDefEqProofs only [go_sem, ↓reduceIte, *]))); all_goals try (first | omega | (refine ⟨?_, ?_⟩ <;> omega) | (exact rfl) | (simp; done)))
    all_goals first
      | (rename_i h; exact absurd h (by decide))
      | (first | omega | (refine ⟨?_, ?_⟩ <;> omega) | (simp; done) | (simp; omega) | (refine ⟨?_, ?_⟩ <;> omega) | rfl | (simp; done) | (simp_all; done) | (simp_all; omega) | (exfalso; simp_all [bne]; done) | trace_state)
end Go.Vc


set_option linter.unusedVariables false
set_option linter.unusedSimpArgs false
set_option linter.unnecessarySimpa false
namespace Go.Vc
open Go.Proofs
set_option maxRecDepth 100000
def hullAt (keys : List (List Int)) (i : Nat) (d : Nat) : Bool := keys.any fun k => k.getD i 0 == (d : Int)
def hullSet (m : MkM) (keys : List (List Int)) (i : Nat) : List Int := flt (hullAt keys i) m.depths.toNat
def hull (m : MkM) (keys : List (List Int)) (n : Nat) : List (List Int) := (List.range n).map (hullSet m keys)
theorem hull_succ (m : MkM) (keys : List (List Int)) (n : Nat) : hull m keys (n + 1) = hull m keys n ++ [hullSet m keys n] := by simp [hull, List.range_succ]
theorem hull_zero (m : MkM) (keys : List (List Int)) : hull m keys 0 = [] := rfl
theorem hull_len (m : MkM) (keys : List (List Int)) (n : Nat) : (hull m keys n).length = n := by simp [hull]
theorem hullSet_len (m : MkM) (keys : List (List Int)) (i : Nat) : (hullSet m keys i).length ≤ m.depths.toNat := flt_len _ _
theorem hull_sets (m : MkM) (keys : List (List Int)) (n : Nat) : ∀ x ∈ hull m keys n, x.length ≤ m.depths.toNat := fun x hx => by
  simp only [hull, List.mem_map] at hx
  obtain ⟨i, _, rfl⟩ := hx
  exact hullSet_len _ _ _
theorem strict_ext : ∀ {xs ys : List Int}, xs.Pairwise (· < ·) → ys.Pairwise (· < ·) → (∀ x, x ∈ xs ↔ x ∈ ys) → xs = ys
  | [], [], _, _, _ => rfl
  | [], y :: ys, _, _, h => absurd ((h y).2 (List.mem_cons_self ..)) (by simp)
  | x :: xs, [], _, _, h => absurd ((h x).1 (List.mem_cons_self ..)) (by simp)
  | x :: xs, y :: ys, h1, h2, h => by
    obtain ⟨g1, g2⟩ := List.pairwise_cons.1 h1
    obtain ⟨k1, k2⟩ := List.pairwise_cons.1 h2
    have e : x = y := by
      rcases List.mem_cons.1 ((h x).1 (List.mem_cons_self ..)) with e | e
      · exact e
      rcases List.mem_cons.1 ((h y).2 (List.mem_cons_self ..)) with e' | e'
      · exact e'.symm
      have := k1 x e
      have := g1 y e'
      omega
    subst e
    have hr : ∀ z, z ∈ xs ↔ z ∈ ys := fun z => ⟨fun hz => by
      rcases List.mem_cons.1 ((h z).1 (List.mem_cons_of_mem _ hz)) with e | e
      · have := g1 z hz; omega
      · exact e, fun hz => by
      rcases List.mem_cons.1 ((h z).2 (List.mem_cons_of_mem _ hz)) with e | e
      · have := k1 z hz; omega
      · exact e⟩
    rw [strict_ext g2 k2 hr]
theorem flt_pair (p : Nat → Bool) : ∀ n, (flt p n).Pairwise (· < ·)
  | 0 => by rw [flt_zero]; exact List.Pairwise.nil
  | n + 1 => by
    rw [flt_succ]
    split
    · refine List.pairwise_append.2 ⟨flt_pair p n, List.pairwise_singleton .., fun a ha b hb => ?_⟩
      obtain ⟨j, hj, rfl, _⟩ := flt_mem ha
      simp only [List.mem_singleton] at hb
      omega
    · exact flt_pair p n
theorem mem_flt_of {p : Nat → Bool} {n j : Nat} (hj : j < n) (hp : p j = true) : (j : Int) ∈ flt p n := by
  induction n with
  | zero => omega
  | succ n ih =>
    rw [flt_succ]
    by_cases e : j = n
    · subst e; rw [if_pos hp]; simp
    · have := ih (by omega)
      split
      · exact List.mem_append_left _ this
      · exact this
theorem rowsL_flt {xs : List Int} {p : Nat → Bool} {D : Nat} (h : ∀ x ∈ xs, ∃ j : Nat, j < D ∧ x = (j : Int)) (hp : ∀ j, j < D → (p j = true ↔ (j : Int) ∈ xs)) : rowsL xs = flt p D := by
  refine strict_ext (rowsL_pair xs) (flt_pair p D) fun x => ?_
  rw [rowsL_mem]
  constructor
  · intro hx
    obtain ⟨j, hj, rfl⟩ := h x hx
    exact mem_flt_of hj ((hp j hj).2 hx)
  · intro hx
    obtain ⟨j, hj, rfl, h2⟩ := flt_mem hx
    exact (hp j hj).1 h2
theorem hullSet_eq {m : MkM} {keys : List (List Int)} {i : Nat} (h : ∀ k ∈ keys, 0 ≤ k.getD i 0 ∧ k.getD i 0 < m.depths) : rowsL (keys.map fun k => k.getD i 0) = hullSet m keys i := by
  refine rowsL_flt (fun x hx => ?_) fun j _ => ?_
  · obtain ⟨k, hk, rfl⟩ := List.mem_map.1 hx
    have := h k hk
    exact ⟨(k.getD i 0).toNat, by omega, by omega⟩
  · simp only [hullAt, List.any_eq_true, List.mem_map, beq_iff_eq]
def onTo (t cuts : List (List Int)) (k : Nat) : Nat → List (List Int)
  | 0 => []
  | i + 1 => if ((t.getD i []).getD k 0 == 1) = true then onTo t cuts k i ++ [cuts.getD i []] else onTo t cuts k i
theorem onTo_zero (t cuts : List (List Int)) (k : Nat) : onTo t cuts k 0 = [] := rfl
theorem onTo_succ (t cuts : List (List Int)) (k i : Nat) : onTo t cuts k (i + 1) = if ((t.getD i []).getD k 0 == 1) = true then onTo t cuts k i ++ [cuts.getD i []] else onTo t cuts k i := rfl
theorem onTo_len (t cuts : List (List Int)) (k : Nat) : ∀ i, (onTo t cuts k i).length ≤ i
  | 0 => Nat.le_refl _
  | i + 1 => by
    have := onTo_len t cuts k i
    rw [onTo_succ]; split
    · simp; omega
    · omega
theorem onTo_mem {t cuts : List (List Int)} {k : Nat} : ∀ {i : Nat}, i ≤ cuts.length → ∀ x ∈ onTo t cuts k i, x ∈ cuts
  | 0, _, x, hx => by cases hx
  | i + 1, hi, x, hx => by
    have ih := onTo_mem (t := t) (cuts := cuts) (k := k) (i := i) (by omega)
    rw [onTo_succ] at hx
    split at hx
    · rcases List.mem_append.1 hx with h | h
      · exact ih x h
      · simp only [List.mem_singleton] at h
        subst h
        rw [List.getD_eq_getElem?_getD, List.getElem?_eq_getElem (by omega)]
        exact List.getElem_mem _
    · exact ih x hx
def lockAt (m : MkM) (t cuts : List (List Int)) (k : Nat) : List (List Int) := hull m (onTo t cuts k cuts.length) m.chambers.toNat
theorem lockAt_len (m : MkM) (t cuts : List (List Int)) (k : Nat) : (lockAt m t cuts k).length = m.chambers.toNat := hull_len _ _ _
theorem lockAt_sets (m : MkM) (t cuts : List (List Int)) (k : Nat) : ∀ x ∈ lockAt m t cuts k, x.length ≤ m.depths.toNat := hull_sets _ _ _
def locksTo (m : MkM) (t cuts : List (List Int)) (n : Nat) : List (List (List Int)) := (List.range n).map (lockAt m t cuts)
theorem locksTo_zero (m : MkM) (t cuts : List (List Int)) : locksTo m t cuts 0 = [] := rfl
theorem locksTo_succ (m : MkM) (t cuts : List (List Int)) (n : Nat) : locksTo m t cuts (n + 1) = locksTo m t cuts n ++ [lockAt m t cuts n] := by simp [locksTo, List.range_succ]
theorem locksTo_len (m : MkM) (t cuts : List (List Int)) (n : Nat) : (locksTo m t cuts n).length = n := by simp [locksTo]
theorem locksTo_get (m : MkM) (t cuts : List (List Int)) {n k : Nat} (h : k < n) : (locksTo m t cuts n)[k]? = some (lockAt m t cuts k) := by simp [locksTo, h]
def opensL (l : List (List Int)) (c : List Int) : Bool := (List.range c.length).all fun i => has (l.getD i []) (c.getD i 0)
def fpTo (m : MkM) (t cuts : List (List Int)) (i : Nat) : Nat → List (List Int)
  | 0 => []
  | k + 1 => if (((t.getD i []).getD k 0 == 0) && opensL (lockAt m t cuts k) (cuts.getD i [])) = true then fpTo m t cuts i k ++ [[(i : Int), (k : Int)]] else fpTo m t cuts i k
theorem fpTo_zero (m : MkM) (t cuts : List (List Int)) (i : Nat) : fpTo m t cuts i 0 = [] := rfl
theorem fpTo_succ (m : MkM) (t cuts : List (List Int)) (i k : Nat) : fpTo m t cuts i (k + 1) = if (((t.getD i []).getD k 0 == 0) && opensL (lockAt m t cuts k) (cuts.getD i [])) = true then fpTo m t cuts i k ++ [[(i : Int), (k : Int)]] else fpTo m t cuts i k := rfl
theorem fpTo_len (m : MkM) (t cuts : List (List Int)) (i : Nat) : ∀ k, (fpTo m t cuts i k).length ≤ k
  | 0 => Nat.le_refl _
  | k + 1 => by
    have := fpTo_len m t cuts i k
    rw [fpTo_succ]; split
    · simp; omega
    · omega
def fprTo (m : MkM) (t cuts : List (List Int)) : Nat → List (List Int)
  | 0 => []
  | i + 1 => fprTo m t cuts i ++ fpTo m t cuts i (t.getD 0 []).length
theorem fprTo_zero (m : MkM) (t cuts : List (List Int)) : fprTo m t cuts 0 = [] := rfl
theorem fprTo_succ (m : MkM) (t cuts : List (List Int)) (i : Nat) : fprTo m t cuts (i + 1) = fprTo m t cuts i ++ fpTo m t cuts i (t.getD 0 []).length := rfl
theorem fprTo_len (m : MkM) (t cuts : List (List Int)) : ∀ i, (fprTo m t cuts i).length ≤ i * (t.getD 0 []).length
  | 0 => Nat.zero_le _
  | i + 1 => by
    have := fprTo_len m t cuts i
    have := fpTo_len m t cuts i (t.getD 0 []).length
    rw [fprTo_succ, List.length_append, Nat.succ_mul]; omega
def falses (m : MkM) (t cuts : List (List Int)) : List (List Int) := fprTo m t cuts cuts.length
def isCutsOf (m : MkM) (t cuts : List (List Int)) : Bool := (cuts.length == t.length) && cuts.all (key1 m)
def cutsC (m : MkM) (t cuts : List (List Int)) : Int := if isSy m t then (if isCutsOf m t cuts then 0 else 2) else 1
def isDes (m : MkM) (t cuts : List (List Int)) : Bool := isSy m t && isCutsOf m t cuts && (falses m t cuts).isEmpty
end Go.Vc


set_option linter.unusedVariables false
set_option linter.unusedSimpArgs false
set_option linter.unnecessarySimpa false
namespace Go.Vc
open Go.Proofs
set_option maxRecDepth 100000
def stkTo (set : List Int) : Nat → List Int
  | 0 => [set.getD 0 0]
  | i + 1 => stkTo set i ++ [set.getD (i + 1) 0 - set.getD i 0]
def stk (m : MkM) (set : List Int) : List Int := stkTo set (set.length - 1) ++ [m.depths - 1 - set.getD (set.length - 1) 0]
structure St3 where
  b : List Int
  w : List Int
  d : List Int
def pins (m : MkM) (l : List (List Int)) : List (List Int) := l.map (stk m)
end Go.Vc


set_option linter.unusedVariables false
set_option linter.unusedSimpArgs false
set_option linter.unnecessarySimpa false
namespace Go.Vc
open Go.Proofs
set_option maxRecDepth 100000
set_option maxHeartbeats 4000000
abbrev eLks (ls : List (List (List Int))) : AV := .arr ⟨1, true⟩ (ls.map eLk)
theorem take_map_all {α β : Type} (f : α → β) (l : List α) (n : Nat) (h : l.length ≤ n) : (l.map f).take n = l.map f := List.take_of_length_le (by simpa using h)
theorem c_l04Hull (m : MkM) (keys : List (List Int)) (hm : isMk m = true) (h0 : keys.length ≤ 1048576) (hk3 : ∀ k ∈ keys, (k.length : Int) = m.chambers) :
    Fn Tryz.prog 88 [eMk m, eIss keys] false (· = eLk (hull m keys m.chambers.toNat)) := by
  have ⟨⟨n1, n2⟩, n3, n4⟩ := isMk_num hm
  refine Fn.of_vcS 54 [.cell 4 83] Tryz.func88 rfl rfl rfl rfl rfl (of_decide_eq_true rfl) ?_
  simp -dsimp -implicitDefEqProofs only [go_sem, ↓reduceIte]
  refine Later.up [1, 2, 4] [18, 27, 46, 47, 50, 51] [11] m.chambers.toNat (fun _ => True) (fun i => [(6, eI i), (5, .ref 11 0 0 i)]) (fun i => [(11, .row 0 ⟨1, false⟩ (i == 0) ((hull m keys i).map eIs))]) trivial ?_ rfl (fun i hi _ => ?_) (fun _ => ?_)
  · simp -dsimp -implicitDefEqProofs only [go_sem, ↓reduceIte, hull_zero]
  · have hlt : decide ((i : Int) < m.chambers) = true := decide_eq_true (by omega)
    have hhl := hull_len m keys i
    rw [hull_succ]
    unfold hullSet
    generalize hull m keys i = H at *
    simp -dsimp -implicitDefEqProofs only [pick_nil, pick_cons, look_nil, look_cons, dropB_nil, dropB_cons, inD_nil, inD_cons, inE_nil, inE_cons, or_t_l, or_f_l, Nat.reduceBEq, Nat.reduceDiv, Nat.reduceAdd, beq_self_eq_true, uq0, uq1, ↓reduceIte, Nat.reduceEqDiff, uq2, uq3]
    simp -dsimp -implicitDefEqProofs only [go_sem, ↓reduceIte, hlt]
    refine Later.up [1, 2, 4, 5, 6] [27, 46, 47] [18] m.depths.toNat (fun _ => True) (fun d => [(8, eI d), (7, .ref 18 0 0 (flt (hullAt keys i) d).length)]) (fun d => [(18, .row 0 ⟨1, false⟩ true ((flt (hullAt keys i) d).map eI))]) trivial ?_ rfl (fun d hd _ => ?_) (fun _ => ?_)
    · simp -dsimp -implicitDefEqProofs only [go_sem, ↓reduceIte, flt_zero]
    · have hltd : decide ((d : Int) < m.depths) = true := decide_eq_true (by omega)
      have hfl := flt_len (hullAt keys i) d
      rw [flt_succ]
      have hany : hullAt keys i d = (keys.take keys.length).any fun x => x.getD i 0 == (d : Int) := by rw [List.take_length]; rfl
      rw [hany]
      clear hany
      generalize flt (hullAt keys i) d = F at *
      simp -dsimp -implicitDefEqProofs only [pick_nil, pick_cons, look_nil, look_cons, dropB_nil, dropB_cons, inD_nil, inD_cons, inE_nil, inE_cons, or_t_l, or_f_l, Nat.reduceBEq, Nat.reduceDiv, Nat.reduceAdd, beq_self_eq_true, uq0, uq1, ↓reduceIte, Nat.reduceEqDiff, uq2, uq3]
      simp -dsimp -implicitDefEqProofs only [go_sem, ↓reduceIte, hltd]
      refine Later.up [1, 2, 4, 5, 6, 7, 8] [27] [] keys.length (fun _ => True) (fun k => [(10, eI k), (9, eB ((keys.take k).any fun x => x.getD i 0 == (d : Int)))]) (fun _ => []) trivial ?_ rfl (fun k hk' _ => ?_) (fun _ => ?_)
      · simp -dsimp -implicitDefEqProofs only [go_sem, ↓reduceIte]
        exact rfl
      · have hkl : i < keys[k].length := by have := hk3 _ (List.getElem_mem hk'); omega
        have gk := get_some hk'
        have gi := get_some hkl
        have hgd : keys[k].getD i 0 = keys[k][i] := by simp [List.getD_eq_getElem?_getD, hkl]
        rw [any_take _ _ _ hk', hgd]
        have lk := lt_len hk'
        generalize keys[k] = x at *
        generalize x[i] = z at *
        generalize ((keys.take k).any fun x => x.getD i 0 == (d : Int)) = b at *
        simp -dsimp -implicitDefEqProofs only [pick_nil, pick_cons, look_nil, look_cons, dropB_nil, dropB_cons, inD_nil, inD_cons, inE_nil, inE_cons, or_t_l, or_f_l, Nat.reduceBEq, Nat.reduceDiv, Nat.reduceAdd, beq_self_eq_true, uq0, uq1, ↓reduceIte, Nat.reduceEqDiff, uq2, uq3]
        cases b <;> simp -dsimp -implicitDefEqProofs only [go_sem, ↓reduceIte, lk, gk, gi]
        · exact ⟨⟨by omega, by omega⟩, ⟨by omega, by omega⟩, ⟨by omega, by omega⟩, rfl⟩
        · exact ⟨⟨by omega, by omega⟩, rfl⟩
      · generalize ((keys.take keys.length).any fun x => x.getD i 0 == (d : Int)) = b at *
        simp -dsimp -implicitDefEqProofs only [pick_nil, pick_cons, look_nil, look_cons, dropB_nil, dropB_cons, inD_nil, inD_cons, inE_nil, inE_cons, or_t_l, or_f_l, Nat.reduceBEq, Nat.reduceDiv, Nat.reduceAdd, beq_self_eq_true, uq0, uq1, ↓reduceIte, Nat.reduceEqDiff, uq2, uq3]
        cases b <;> simp -dsimp -implicitDefEqProofs only [go_sem, ↓reduceIte, nlt_len]
        · exact ⟨⟨by omega, by omega⟩, rfl⟩
        · exact ⟨by omega, ⟨by omega, by omega⟩, rfl, by simp⟩
    · have hltd : decide (((m.depths.toNat : Nat) : Int) < m.depths) = false := decide_eq_false (by omega)
      have hfl := flt_len (hullAt keys i) m.depths.toNat
      generalize flt (hullAt keys i) m.depths.toNat = F at *
      have htk : List.take F.length (List.map eI F) = List.map eI F := List.take_of_length_le (by simp)
      have htk2 : List.take i (List.map eIs H) = List.map eIs H := List.take_of_length_le (by simp; omega)
      have e2 : List.map eIs (H ++ [F]) = List.map eIs H ++ [eIs F] := by simp
      have e0 : (i + 1 == 0) = false := rfl
      simp -dsimp -implicitDefEqProofs only [pick_nil, pick_cons, look_nil, look_cons, dropB_nil, dropB_cons, inD_nil, inD_cons, inE_nil, inE_cons, or_t_l, or_f_l, Nat.reduceBEq, Nat.reduceDiv, Nat.reduceAdd, beq_self_eq_true, uq0, uq1, ↓reduceIte, Nat.reduceEqDiff, uq2, uq3]
      simp -dsimp -implicitDefEqProofs only [go_sem, ↓reduceIte, hltd]
      refine .inr ⟨by omega, by omega, (by cases i with | zero => exact .inr rfl | succ i => exact .inl rfl), ⟨by omega, by omega⟩, rfl, ?_⟩
      rw [e0, e2]
      simp -dsimp -implicitDefEqProofs only [go_sem, ↓reduceIte, htk, htk2]
  · have hlt : decide (((m.chambers.toNat : Nat) : Int) < m.chambers) = false := decide_eq_false (by omega)
    have hhl := hull_len m keys m.chambers.toNat
    generalize hull m keys m.chambers.toNat = H at *
    have htk := take_map_all eIs H m.chambers.toNat (by omega)
    simp -dsimp -implicitDefEqProofs only [pick_nil, pick_cons, look_nil, look_cons, dropB_nil, dropB_cons, inD_nil, inD_cons, inE_nil, inE_cons, or_t_l, or_f_l, Nat.reduceBEq, Nat.reduceDiv, Nat.reduceAdd, beq_self_eq_true, uq0, uq1, ↓reduceIte, Nat.reduceEqDiff, uq2, uq3]
    simp -dsimp -implicitDefEqProofs only [go_sem, ↓reduceIte, hlt]
    ((repeat' (with_reducible refine And.intro ?_ ?_)); all_goals try (first | omega | (refine ⟨?_, ?_⟩ <;> omega) | (exact rfl)))
    all_goals rw [htk]
theorem c_l15Lock (m : MkM) (t cuts : List (List Int)) (k : Nat) (hm : isMk m = true) (h0 : cuts.length ≤ 1048576) (h1 : cuts.length ≤ t.length) (hk : ∀ i (hi : i < t.length), k < t[i].length) (hc : ∀ x ∈ cuts, (x.length : Int) = m.chambers) :
    Fn Tryz.prog 56 [eSy m t, eIss cuts, eI k] false (· = eLk (lockAt m t cuts k)) := by
  refine Fn.of_vcS 36 [.cell 6 83] Tryz.func56 rfl rfl rfl rfl rfl (of_decide_eq_true rfl) ?_
  simp -dsimp -implicitDefEqProofs only [go_sem, ↓reduceIte]
  refine Later.up [1, 2, 3, 6] [12, 30, 31] [9] cuts.length (fun _ => True) (fun i => [(8, eI i), (7, .ref 9 0 0 (onTo t cuts k i).length)]) (fun i => [(9, .row 0 ⟨1, false⟩ (onTo t cuts k i).isEmpty ((onTo t cuts k i).map eIs))]) trivial ?_ rfl (fun i hi _ => ?_) (fun _ => ?_)
  · simp -dsimp -implicitDefEqProofs only [go_sem, ↓reduceIte, onTo_zero, List.isEmpty_nil]
  · have hit : i < t.length := by omega
    have hki := hk i hit
    have gi := get_some hit
    have gk := get_some hki
    have gc := get_some hi
    have li := lt_len hi
    have hp : (t.getD i []).getD k 0 = t[i][k] := by simp [List.getD_eq_getElem?_getD, hit, hki]
    have hcd : cuts.getD i [] = cuts[i] := by simp [List.getD_eq_getElem?_getD, hi]
    have hon := onTo_len t cuts k i
    rw [onTo_succ, hp, hcd]
    generalize onTo t cuts k i = F at *
    generalize t[i][k] = z at *
    generalize cuts[i] = c at *
    have htk := take_map_all eIs F F.length (Nat.le_refl _)
    have e2 : List.map eIs (F ++ [c]) = List.map eIs F ++ [eIs c] := by simp
    have e0 : (F ++ [c]).isEmpty = false := by simp
    have e1 : (F ++ [c]).length = F.length + 1 := by simp
    simp -dsimp -implicitDefEqProofs only [pick_nil, pick_cons, look_nil, look_cons, dropB_nil, dropB_cons, inD_nil, inD_cons, inE_nil, inE_cons, or_t_l, or_f_l, Nat.reduceBEq, Nat.reduceDiv, Nat.reduceAdd, beq_self_eq_true, uq0, uq1, ↓reduceIte, Nat.reduceEqDiff, uq2, uq3]
    rcases hz : (z == 1) with _ | _
    · simp -dsimp -implicitDefEqProofs only [go_sem, ↓reduceIte, li, gi, gk, hz]
      ((repeat' (with_reducible refine And.intro ?_ ?_)); all_goals try (first | omega | (refine ⟨?_, ?_⟩ <;> omega) | (exact rfl)))
      all_goals trace_state
    · simp only [if_true]
      simp -dsimp -implicitDefEqProofs only [go_sem, ↓reduceIte, li, gi, gk, gc, hz]
      ((repeat' (with_reducible refine And.intro ?_ ?_)); all_goals try (first | omega | (refine ⟨?_, ?_⟩ <;> omega) | (exact rfl)))
      refine .inr ⟨by omega, (by cases F with | nil => exact .inr rfl | cons => exact .inl rfl), ⟨by omega, by omega⟩, ?_⟩
      rw [e0, e2]
      simp -dsimp -implicitDefEqProofs only [go_sem, ↓reduceIte, htk]
      exact rfl
  · have hon := onTo_len t cuts k cuts.length
    have hmm : ∀ x ∈ onTo t cuts k cuts.length, (x.length : Int) = m.chambers := fun x hx => hc x (onTo_mem (Nat.le_refl _) x hx)
    have hq := c_l04Hull m (onTo t cuts k cuts.length) hm (by omega) hmm
    unfold lockAt
    generalize onTo t cuts k cuts.length = F at *
    have htk := take_map_all eIs F F.length (Nat.le_refl _)
    simp -dsimp -implicitDefEqProofs only [pick_nil, pick_cons, look_nil, look_cons, dropB_nil, dropB_cons, inD_nil, inD_cons, inE_nil, inE_cons, or_t_l, or_f_l, Nat.reduceBEq, Nat.reduceDiv, Nat.reduceAdd, beq_self_eq_true, uq0, uq1, ↓reduceIte, Nat.reduceEqDiff, uq2, uq3]
    simp -dsimp -implicitDefEqProofs only [go_sem, ↓reduceIte, nlt_len]
    refine sCallT_frz 9 0 ⟨1, false⟩ F.isEmpty (List.map eIs F) hq (by decide) ?_ ?_ fun r hr => ?_
    · simp -dsimp -implicitDefEqProofs only [go_sem, ↓reduceIte]
    · refine frzOk_no ?_ rfl ?_
      · simp -dsimp -implicitDefEqProofs only [go_sem, ↓reduceIte]
      · have h := frzOk_ref (l := 9) (v := 0) (sh := ⟨1, false⟩) (ys := List.map eIs F) (xs := []) (r := []) 0 F.length (by simp) trivial
        rw [List.drop_zero, htk] at h
        exact h
    · subst hr
      simp -dsimp -implicitDefEqProofs only [go_sem, ↓reduceIte]
      all_goals first | exact rfl | trace_state
theorem c_l15Locks (m : MkM) (t cuts : List (List Int)) (hm : isMk m = true) (h0 : cuts.length ≤ 1048576) (h1 : cuts.length ≤ t.length) (h2 : 0 < t.length) (hk : ∀ i (hi : i < t.length), t[i].length = (t.getD 0 []).length) (hd : (t.getD 0 []).length ≤ 1048576) (hc : ∀ x ∈ cuts, (x.length : Int) = m.chambers) :
    Fn Tryz.prog 136 [eSy m t, eIss cuts] false (· = eLks (locksTo m t cuts (t.getD 0 []).length)) := by
  refine Fn.of_vcS 25 [.tmp 4] Tryz.func136 rfl rfl rfl rfl rfl (of_decide_eq_true rfl) ?_
  have g0 := get_some h2
  have hg : t.getD 0 [] = t[0] := by simp [List.getD_eq_getElem?_getD, h2]
  rw [hg] at hk hd ⊢
  simp -dsimp -implicitDefEqProofs only [go_sem, ↓reduceIte]
  refine Later.up [1, 2] [13, 21, 22, 23] [7] t[0].length (fun _ => True) (fun i => [(6, eI i), (5, .ref 7 0 0 i)]) (fun i => [(7, .row 0 ⟨1, true⟩ (i == 0) ((locksTo m t cuts i).map eLk))]) trivial ?_ rfl (fun i hi _ => ?_) (fun _ => ?_)
  · simp -dsimp -implicitDefEqProofs only [go_sem, ↓reduceIte, locksTo_zero]
  · have hq := c_l15Lock m t cuts i hm h0 h1 (fun j hj => by rw [hk j hj]; exact hi) hc
    have hll := locksTo_len m t cuts i
    have li := lt_len hi
    rw [locksTo_succ]
    generalize locksTo m t cuts i = F at *
    generalize lockAt m t cuts i = L at *
    have htk := take_map_all eLk F i (by omega)
    have e0 : (i + 1 == 0) = false := rfl
    have e2 : List.map eLk (F ++ [L]) = List.map eLk F ++ [eLk L] := by simp
    simp -dsimp -implicitDefEqProofs only [pick_nil, pick_cons, look_nil, look_cons, dropB_nil, dropB_cons, inD_nil, inD_cons, inE_nil, inE_cons, or_t_l, or_f_l, Nat.reduceBEq, Nat.reduceDiv, Nat.reduceAdd, beq_self_eq_true, uq0, uq1, ↓reduceIte, Nat.reduceEqDiff, uq2, uq3]
    simp -dsimp -implicitDefEqProofs only [go_sem, ↓reduceIte, g0, li]
    refine ⟨by omega, ?_⟩
    (refine sCallS_one (hq) (by simp [noLabs, labs, labsL, isClo]) ?_)
    simp -dsimp -implicitDefEqProofs only [go_sem, ↓reduceIte]
    refine .inr ⟨by omega, by omega, (by cases i with | zero => exact .inr rfl | succ i => exact .inl rfl), ⟨by omega, by omega⟩, rfl, ?_⟩
    rw [e0, e2]
    simp -dsimp -implicitDefEqProofs only [go_sem, ↓reduceIte, htk]
  · have hll := locksTo_len m t cuts t[0].length
    generalize locksTo m t cuts t[0].length = F at *
    have htk := take_map_all eLk F t[0].length (by omega)
    simp -dsimp -implicitDefEqProofs only [pick_nil, pick_cons, look_nil, look_cons, dropB_nil, dropB_cons, inD_nil, inD_cons, inE_nil, inE_cons, or_t_l, or_f_l, Nat.reduceBEq, Nat.reduceDiv, Nat.reduceAdd, beq_self_eq_true, uq0, uq1, ↓reduceIte, Nat.reduceEqDiff, uq2, uq3]
    simp -dsimp -implicitDefEqProofs only [go_sem, ↓reduceIte, g0, nlt_len]
    ((repeat' (with_reducible refine And.intro ?_ ?_)); all_goals try (first | omega | (refine ⟨?_, ?_⟩ <;> omega) | (exact rfl)))
    all_goals rw [htk]
theorem c_l04Opens (l : List (List Int)) (c : List Int) (h0 : c.length ≤ l.length) (h1 : l.length ≤ 1048576) (h2 : ∀ x ∈ l, x.length ≤ 1048576) : Fn Tryz.prog 137 [eLk l, eIs c] true (· = eB (opensL l c)) := by
  refine Fn.of_vcN 23 [.tmp 4] Tryz.func137 rfl rfl rfl rfl rfl (of_decide_eq_true rfl) ?_
  simp -dsimp -implicitDefEqProofs only [go_sem, ↓reduceIte]
  refine Later.up [1, 2] [8, 21] [] c.length (fun i => ((List.range i).all fun i => has (l.getD i []) (c.getD i 0)) = true) (fun i => [(5, eI i)]) (fun _ => []) rfl ?_ rfl (fun i hi hI => ?_) (fun hI => ?_)
  · simp -dsimp -implicitDefEqProofs only [go_sem, ↓reduceIte]
  · have gi := get_some (show i < l.length by omega)
    have gc := get_some hi
    have li := lt_len hi
    have hp : has (l.getD i []) (c.getD i 0) = has l[i] c[i] := by simp [List.getD_eq_getElem?_getD, hi, show i < l.length by omega]
    have hq := c_l01Has l[i] c[i] (h2 _ (List.getElem_mem _))
    have no : has l[i] c[i] = false → opensL l c = false := fun h => range_all_no hi (by rw [hp]; exact h)
    have yes : has l[i] c[i] = true → ((List.range (i + 1)).all fun i => has (l.getD i []) (c.getD i 0)) = true := fun h => by rw [range_all_succ, hI, hp, h]; rfl
    clear hp hI
    generalize l[i] = x at *
    generalize c[i] = z at *
    simp -dsimp -implicitDefEqProofs only [pick_nil, pick_cons, look_nil, look_cons, dropB_nil, dropB_cons, inD_nil, inD_cons, inE_nil, inE_cons, or_t_l, or_f_l, Nat.reduceBEq, Nat.reduceDiv, Nat.reduceAdd, beq_self_eq_true, uq0, uq1, ↓reduceIte, Nat.reduceEqDiff, uq2, uq3]
    simp -dsimp -implicitDefEqProofs only [go_sem, ↓reduceIte, gi, gc, li]
    ((repeat' (with_reducible refine And.intro ?_ ?_)); all_goals try (first | omega | (refine ⟨?_, ?_⟩ <;> omega) | (exact rfl)))
    refine Later.draw mixed rfl ?_
    simp -dsimp -implicitDefEqProofs only [go_sem, ↓reduceIte, gi, gc, li]
    ((repeat' (with_reducible refine And.intro ?_ ?_)); all_goals try (first | omega | (refine ⟨?_, ?_⟩ <;> omega) | (exact rfl)))
    refine sCallX_one hq ?_
    simp -dsimp -implicitDefEqProofs only [go_sem, ↓reduceIte]
    refine ⟨by exact rfl, ?_⟩
    rcases hb : has x z with _ | _
    · rw [no hb]
      simp -dsimp -implicitDefEqProofs only [go_sem, ↓reduceIte]
    · simp -dsimp -implicitDefEqProofs only [go_sem, ↓reduceIte]
      refine ⟨⟨by omega, by omega⟩, ?_, rfl⟩
      rw [← List.range_succ]
      exact yes hb
  · simp -dsimp -implicitDefEqProofs only [pick_nil, pick_cons, look_nil, look_cons, dropB_nil, dropB_cons, inD_nil, inD_cons, inE_nil, inE_cons, or_t_l, or_f_l, Nat.reduceBEq, Nat.reduceDiv, Nat.reduceAdd, beq_self_eq_true, uq0, uq1, ↓reduceIte, Nat.reduceEqDiff, uq2, uq3]
    simp -dsimp -implicitDefEqProofs only [go_sem, ↓reduceIte, nlt_len]
    rw [show opensL l c = true from hI]
theorem c_l15False (m : MkM) (t cuts : List (List Int)) (hm : isMk m = true) (h0 : cuts.length ≤ 1000) (h1 : cuts.length ≤ t.length) (h2 : 0 < t.length) (hk : ∀ i (hi : i < t.length), t[i].length = (t.getD 0 []).length) (hd : (t.getD 0 []).length ≤ 1000) (hc : ∀ x ∈ cuts, (x.length : Int) = m.chambers) :
    Fn Tryz.prog 115 [eSy m t, eIss cuts] false (· = eIss (falses m t cuts)) := by
  have ⟨⟨n1, n2⟩, n3, n4⟩ := isMk_num hm
  refine Fn.of_vcS 52 [.tmp 4] Tryz.func115 rfl rfl rfl rfl rfl (of_decide_eq_true rfl) ?_
  have hq := c_l15Locks m t cuts hm (by omega) h1 h2 hk (by omega) hc
  simp -dsimp -implicitDefEqProofs only [go_sem, ↓reduceIte]
  (refine sCallS_one (hq) (by simp [noLabs, labs, labsL, isClo]) ?_)
  clear hq
  simp -dsimp -implicitDefEqProofs only [go_sem, ↓reduceIte]
  have hll := locksTo_len m t cuts (t.getD 0 []).length
  refine Later.up [1, 2, 5] [15, 21, 43, 48, 49, 50] [12] cuts.length (fun _ => True) (fun i => [(7, eI i), (6, .ref 12 0 0 (fprTo m t cuts i).length)]) (fun i => [(12, .row 0 ⟨1, false⟩ (fprTo m t cuts i).isEmpty ((fprTo m t cuts i).map eIs))]) trivial ?_ rfl (fun i hi _ => ?_) (fun _ => ?_)
  · simp -dsimp -implicitDefEqProofs only [go_sem, ↓reduceIte, fprTo_zero, List.isEmpty_nil]
  · have hfl := fprTo_len m t cuts i
    have li := lt_len hi
    have hmul : i * (t.getD 0 []).length ≤ 1000 * 1000 := Nat.mul_le_mul (by omega) hd
    rw [fprTo_succ]
    generalize fprTo m t cuts i = H at *
    simp -dsimp -implicitDefEqProofs only [pick_nil, pick_cons, look_nil, look_cons, dropB_nil, dropB_cons, inD_nil, inD_cons, inE_nil, inE_cons, or_t_l, or_f_l, Nat.reduceBEq, Nat.reduceDiv, Nat.reduceAdd, beq_self_eq_true, uq0, uq1, ↓reduceIte, Nat.reduceEqDiff, uq2, uq3]
    simp -dsimp -implicitDefEqProofs only [go_sem, ↓reduceIte, li]
    refine Later.up [1, 2, 5, 7] [21, 43, 48, 49, 50] [12] (t.getD 0 []).length (fun _ => True) (fun k => [(8, eI k), (6, .ref 12 0 0 (H ++ fpTo m t cuts i k).length)]) (fun k => [(12, .row 0 ⟨1, false⟩ (H ++ fpTo m t cuts i k).isEmpty ((H ++ fpTo m t cuts i k).map eIs))]) trivial ?_ rfl (fun k hk' _ => ?_) (fun _ => ?_)
    · simp -dsimp -implicitDefEqProofs only [go_sem, ↓reduceIte, fpTo_zero, List.append_nil]
    · have hit : i < t.length := by omega
      have hki : k < t[i].length := by rw [hk i hit]; exact hk'
      have gi := get_some hit
      have gk := get_some hki
      have gc := get_some hi
      have gl := locksTo_get m t cuts hk'
      have hp : (t.getD i []).getD k 0 = t[i][k] := by simp [List.getD_eq_getElem?_getD, hit, hki]
      have hcd : cuts.getD i [] = cuts[i] := by simp [List.getD_eq_getElem?_getD, hi]
      have hfk := fpTo_len m t cuts i k
      have hL := lockAt_len m t cuts k
      have hcl := hc _ (List.getElem_mem hi)
      have hop := c_l04Opens (lockAt m t cuts k) cuts[i] (by omega) (by omega) (fun x hx => by have := lockAt_sets m t cuts k x hx; omega)
      rw [fpTo_succ, hp, hcd]
      generalize fpTo m t cuts i k = F at *
      generalize lockAt m t cuts k = L at *
      generalize locksTo m t cuts (t.getD 0 []).length = LS at *
      have lk : decide ((k : Int) < (LS.length : Int)) = true := decide_eq_true (by omega)
      generalize t[i][k] = z at *
      generalize cuts[i] = c at *
      generalize hopb : opensL L c = ob at *
      have hG : (H ++ F).length ≤ 1001000 := by rw [List.length_append]; omega
      have e9 : ∀ x : List Int, H ++ (F ++ [x]) = (H ++ F) ++ [x] := fun x => by simp
      simp only [e9, apply_ite (fun l => H ++ l)]
      generalize H ++ F = G at *
      have htk := take_map_all eIs G G.length (Nat.le_refl _)
      have e0 : (G ++ [[(i : Int), (k : Int)]]).isEmpty = false := by simp
      have e1 : (G ++ [[(i : Int), (k : Int)]]).length = G.length + 1 := by simp
      have e2 : List.map eIs (G ++ [[(i : Int), (k : Int)]]) = List.map eIs G ++ [eIs [(i : Int), (k : Int)]] := by simp
      simp -dsimp -implicitDefEqProofs only [pick_nil, pick_cons, look_nil, look_cons, dropB_nil, dropB_cons, inD_nil, inD_cons, inE_nil, inE_cons, or_t_l, or_f_l, Nat.reduceBEq, Nat.reduceDiv, Nat.reduceAdd, beq_self_eq_true, uq0, uq1, ↓reduceIte, Nat.reduceEqDiff, uq2, uq3]
      rcases hz : (z == 0) with _ | _
      · simp -dsimp -implicitDefEqProofs only [go_sem, ↓reduceIte, gi, gk, li, lk, hz]
        refine Later.draw mixed rfl ?_
        simp -dsimp -implicitDefEqProofs only [go_sem, ↓reduceIte, gi, gk, li, lk, hz]
        ((repeat' (with_reducible refine And.intro ?_ ?_)); all_goals try (first | omega | (refine ⟨?_, ?_⟩ <;> omega) | (exact rfl)))
        all_goals trace_state
      · simp -dsimp -implicitDefEqProofs only [go_sem, ↓reduceIte, gi, gk, gc, gl, li, lk, hz]
        refine Later.draw mixed rfl ?_
        simp -dsimp -implicitDefEqProofs only [go_sem, ↓reduceIte, gi, gk, gc, gl, li, lk, hz]
        ((repeat' (with_reducible refine And.intro ?_ ?_)); all_goals try (first | omega | (refine ⟨?_, ?_⟩ <;> omega) | (exact rfl)))
        refine sCallX_one hop ?_
        cases ob with
        | false =>
          simp -dsimp -implicitDefEqProofs only [go_sem, ↓reduceIte]
          ((repeat' (with_reducible refine And.intro ?_ ?_)); all_goals try (first | omega | (refine ⟨?_, ?_⟩ <;> omega) | (exact rfl)))
          all_goals trace_state
        | true =>
          simp -dsimp -implicitDefEqProofs only [go_sem, ↓reduceIte]
          refine ⟨by exact rfl, ?_⟩
          refine .inr ⟨by omega, (by cases G with | nil => exact .inr rfl | cons => exact .inl rfl), ⟨by omega, by omega⟩, rfl, ?_⟩
          rw [e0, e2]
          simp -dsimp -implicitDefEqProofs only [go_sem, ↓reduceIte, htk]
          all_goals first | exact rfl | trace_state
    · simp -dsimp -implicitDefEqProofs only [pick_nil, pick_cons, look_nil, look_cons, dropB_nil, dropB_cons, inD_nil, inD_cons, inE_nil, inE_cons, or_t_l, or_f_l, Nat.reduceBEq, Nat.reduceDiv, Nat.reduceAdd, beq_self_eq_true, uq0, uq1, ↓reduceIte, Nat.reduceEqDiff, uq2, uq3]
      simp -dsimp -implicitDefEqProofs only [go_sem, ↓reduceIte, hll, nlt_len]
      ((repeat' (with_reducible refine And.intro ?_ ?_)); all_goals try (first | omega | (refine ⟨?_, ?_⟩ <;> omega) | (exact rfl)))
      all_goals trace_state
  · have hfl := fprTo_len m t cuts cuts.length
    unfold falses
    generalize fprTo m t cuts cuts.length = F at *
    have htk := take_map_all eIs F F.length (Nat.le_refl _)
    simp -dsimp -implicitDefEqProofs only [pick_nil, pick_cons, look_nil, look_cons, dropB_nil, dropB_cons, inD_nil, inD_cons, inE_nil, inE_cons, or_t_l, or_f_l, Nat.reduceBEq, Nat.reduceDiv, Nat.reduceAdd, beq_self_eq_true, uq0, uq1, ↓reduceIte, Nat.reduceEqDiff, uq2, uq3]
    simp -dsimp -implicitDefEqProofs only [go_sem, ↓reduceIte, nlt_len]
    ((repeat' (with_reducible refine And.intro ?_ ?_)); all_goals try (first | omega | (refine ⟨?_, ?_⟩ <;> omega) | (exact rfl)))
    all_goals rw [htk]
end Go.Vc


set_option linter.unusedVariables false
set_option linter.unusedSimpArgs false
set_option linter.unnecessarySimpa false
namespace Go.Vc
open Go.Proofs
set_option maxRecDepth 100000
set_option maxHeartbeats 4000000
end Go.Vc


set_option linter.unusedVariables false
set_option linter.unusedSimpArgs false
set_option linter.unnecessarySimpa false
namespace Go.Vc
open Go.Proofs
set_option maxRecDepth 100000
set_option maxHeartbeats 4000000
end Go.Vc


