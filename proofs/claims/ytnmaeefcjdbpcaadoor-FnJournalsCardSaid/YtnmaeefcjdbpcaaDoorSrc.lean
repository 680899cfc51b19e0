/-
  Contracts: the source that hands out numbers.
-/
import Derived.Test.YtnmaeefcjdbpcaaDoorNum
set_option linter.unusedVariables false
set_option linter.unusedSimpArgs false
set_option linter.unnecessarySimpa false
namespace Go.Vc
open Go.Proofs
set_option maxRecDepth 100000
attribute [go_sem] Option.map_none Nat.sub_zero
abbrev eY (b : UInt8) : AV := .val (.int .u8 b.toNat)
abbrev eYs (bs : List UInt8) : AV := .arr ⟨1, false⟩ (bs.map eY)
structure Src where
  seed : Int
  pos : Nat
def SrcOk (s : Src) : Prop := 0 ≤ s.seed ∧ s.seed < 2147483647
abbrev srcB (v : Nat) (bs : List UInt8) (s : Src) : Blk := .box v [eYs bs, eI s.pos, eI s.seed]
def nx (bs : List UInt8) (n : Int) (s : Src) : Int × Src :=
  if n ≤ 1 then (0, s) else
    if h : s.pos < bs.length then
      ((if n ≤ 256 ∧ ((s.pos : Int) + 1).tmod 2 = 0 then (bs[s.pos].toNat : Int) else ((s.seed * 48271 + 29).tmod 2147483647).tdiv 31 + (bs[s.pos].toNat : Int)).tmod n, ⟨(s.seed * 48271 + 29).tmod 2147483647, s.pos + 1⟩)
    else (((s.seed * 48271 + 29).tmod 2147483647).tdiv 31 |>.tmod n, ⟨(s.seed * 48271 + 29).tmod 2147483647, s.pos⟩)
theorem tmod_in {x n : Int} (hx : 0 ≤ x) (hn : 0 < n) : 0 ≤ x.tmod n ∧ x.tmod n < n := ⟨Int.tmod_nonneg _ hx, Int.tmod_lt_of_pos _ hn⟩
theorem nx_ok (bs : List UInt8) (n : Int) {s : Src} (h : SrcOk s) : 0 ≤ (nx bs n s).1 ∧ (n ≤ 1 → (nx bs n s).1 = 0) ∧ (1 < n → (nx bs n s).1 < n) ∧ SrcOk (nx bs n s).2 := by
  obtain ⟨h1, h2⟩ := h
  have hs := tmod_in (x := s.seed * 48271 + 29) (n := 2147483647) (by omega) (by omega)
  have hx : 0 ≤ ((s.seed * 48271 + 29).tmod 2147483647).tdiv 31 := Int.tdiv_nonneg hs.1 (by omega)
  unfold nx
  split
  · exact ⟨Int.le_refl _, fun _ => rfl, fun h => absurd h (by omega), h1, h2⟩
  · split
    · rename_i hn hp
      have hb : 0 ≤ (if n ≤ 256 ∧ ((s.pos : Int) + 1).tmod 2 = 0 then (bs[s.pos].toNat : Int) else ((s.seed * 48271 + 29).tmod 2147483647).tdiv 31 + (bs[s.pos].toNat : Int)) := by split <;> omega
      have := tmod_in (n := n) hb (by omega)
      exact ⟨this.1, fun h => absurd h hn, fun _ => this.2, hs⟩
    · rename_i hn hp
      have := tmod_in (n := n) hx (by omega)
      exact ⟨this.1, fun h => absurd h hn, fun _ => this.2, hs⟩
set_option maxHeartbeats 4000000 in
theorem c_l01Next (v : Nat) (bs : List UInt8) (n : Int) (s : Src) (h : SrcOk s) (hl : bs.length ≤ 4096) :
    FnM Tryd.prog 103 [srcB v bs s] [.ptr 1000000000 v 0 0, eI n] (fun x io => x = eI (nx bs n s).1 ∧ io = [srcB v bs (nx bs n s).2]) := by
  refine FnM.of_vcN 78 [.tmp 4] Tryd.func103 rfl rfl rfl rfl rfl (of_decide_eq_true rfl) ?_
  obtain ⟨h1, h2⟩ := h
  have hs := tmod_in (x := s.seed * 48271 + 29) (n := 2147483647) (by omega) (by omega)
  have hx : 0 ≤ ((s.seed * 48271 + 29).tmod 2147483647).tdiv 31 := Int.tdiv_nonneg hs.1 (by omega)
  have hx2 : ((s.seed * 48271 + 29).tmod 2147483647).tdiv 31 ≤ 2147483647 := by
    have : ((s.seed * 48271 + 29).tmod 2147483647).tdiv 31 ≤ (s.seed * 48271 + 29).tmod 2147483647 := Int.tdiv_le_self _ hs.1
    omega
  by_cases hn : n ≤ 1
  · have hF : nx bs n s = (0, s) := by rw [nx, if_pos hn]
    rw [hF]
    have hn' := decide_eq_true hn
    simp -dsimp -implicitDefEqProofs only [go_sem, ↓reduceIte, Nat.reduceEqDiff, Nat.reduceLT, Nat.reduceAdd, Nat.reduceMul, Nat.reduceLeDiff, Nat.le_refl, Int.natCast_zero, Int.toNat_natCast, Int.reduceToNat, hn']
    all_goals (first | omega | (refine ⟨?_, ?_⟩ <;> omega) | (simp; done) | (simp; omega) | (refine ⟨?_, ?_⟩ <;> omega) | (exact rfl) | (simp; done) | (simp_all; done) | (simp_all; omega) | (exfalso; simp_all [bne]; done) | trace_state)
  have hn' := decide_eq_false hn
  by_cases hp : s.pos < bs.length
  · have hF : nx bs n s = ((if n ≤ 256 ∧ ((s.pos : Int) + 1).tmod 2 = 0 then (bs[s.pos].toNat : Int) else ((s.seed * 48271 + 29).tmod 2147483647).tdiv 31 + (bs[s.pos].toNat : Int)).tmod n, ⟨(s.seed * 48271 + 29).tmod 2147483647, s.pos + 1⟩) := by
      rw [nx, if_neg hn, dif_pos hp]
    have hb : (bs[s.pos].toNat : Int) ≤ 255 := by have := bs[s.pos].toNat_lt; omega
    have gp := get_some hp
    have lp := lt_len hp
    have ep : ((s.pos : Int) + 1 - 1).toNat = s.pos := by omega
    rw [hF]
    clear hF
    generalize hz : bs[s.pos] = z at gp hb
    by_cases hc : n ≤ 256 ∧ ((s.pos : Int) + 1).tmod 2 = 0
    · rw [if_pos hc]
      have c1 := decide_eq_true hc.1
      have c2 : (((s.pos : Int) + 1).tmod 2 == 0) = true := beq_iff_eq.2 hc.2
      clear hc
      simp -dsimp -implicitDefEqProofs only [go_sem, ↓reduceIte, Nat.reduceEqDiff, Nat.reduceLT, Nat.reduceAdd, Nat.reduceMul, Nat.reduceLeDiff, Nat.le_refl, Int.natCast_zero, Int.toNat_natCast, Int.reduceToNat, hn']
      repeat' first
        | (refine Br.intro (fun _ => ?_) (fun _ => ?_) <;> try simp -dsimp -implicitDefEqProofs only [go_sem, ↓reduceIte, Nat.reduceEqDiff, Nat.reduceLT, Nat.reduceAdd, Nat.reduceMul, Nat.reduceLeDiff, Nat.le_refl, Int.natCast_zero, Int.toNat_natCast, Int.reduceToNat, *])
        | (with_reducible refine And.intro ?_ ?_)
        | (refine Later.draw mixed rfl ?_; try simp -dsimp -implicitDefEqProofs only [go_sem, ↓reduceIte, Nat.reduceEqDiff, Nat.reduceLT, Nat.reduceAdd, Nat.reduceMul, Nat.reduceLeDiff, Nat.le_refl, Int.natCast_zero, Int.toNat_natCast, Int.reduceToNat, lp, gp, ep])
      all_goals (first | omega | (refine ⟨?_, ?_⟩ <;> omega) | (simp; done) | (simp; omega) | (refine ⟨?_, ?_⟩ <;> omega) | (exact rfl) | (simp; done) | (simp_all; done) | (simp_all; omega) | (exfalso; simp_all [bne]; done) | trace_state)
    · rw [if_neg hc]
      have c3 : (decide (n ≤ 256) && (((s.pos : Int) + 1).tmod 2 == 0)) = false := by
        rw [Bool.eq_false_iff]; intro h; apply hc; simpa using h
      clear hc
      simp -dsimp -implicitDefEqProofs only [go_sem, ↓reduceIte, Nat.reduceEqDiff, Nat.reduceLT, Nat.reduceAdd, Nat.reduceMul, Nat.reduceLeDiff, Nat.le_refl, Int.natCast_zero, Int.toNat_natCast, Int.reduceToNat, hn']
      repeat' first
        | (refine Br.intro (fun _ => ?_) (fun _ => ?_) <;> try simp -dsimp -implicitDefEqProofs only [go_sem, ↓reduceIte, Nat.reduceEqDiff, Nat.reduceLT, Nat.reduceAdd, Nat.reduceMul, Nat.reduceLeDiff, Nat.le_refl, Int.natCast_zero, Int.toNat_natCast, Int.reduceToNat, *])
        | (with_reducible refine And.intro ?_ ?_)
        | (refine Later.draw mixed rfl ?_; try simp -dsimp -implicitDefEqProofs only [go_sem, ↓reduceIte, Nat.reduceEqDiff, Nat.reduceLT, Nat.reduceAdd, Nat.reduceMul, Nat.reduceLeDiff, Nat.le_refl, Int.natCast_zero, Int.toNat_natCast, Int.reduceToNat, lp, gp, ep])
      all_goals (first | omega | (refine ⟨?_, ?_⟩ <;> omega) | (simp; done) | (simp; omega) | (refine ⟨?_, ?_⟩ <;> omega) | (exact rfl) | (simp; done) | (simp_all; done) | (simp_all; omega) | (exfalso; simp_all [bne]; done) | trace_state)
  · have hF : nx bs n s = (((s.seed * 48271 + 29).tmod 2147483647).tdiv 31 |>.tmod n, ⟨(s.seed * 48271 + 29).tmod 2147483647, s.pos⟩) := by
      rw [nx, if_neg hn, dif_neg hp]
    have lp : decide ((s.pos : Int) < (bs.length : Int)) = false := decide_eq_false (by omega)
    rw [hF]
    clear hF
    simp -dsimp -implicitDefEqProofs only [go_sem, ↓reduceIte, Nat.reduceEqDiff, Nat.reduceLT, Nat.reduceAdd, Nat.reduceMul, Nat.reduceLeDiff, Nat.le_refl, Int.natCast_zero, Int.toNat_natCast, Int.reduceToNat, hn']
    repeat' first
      | (refine Br.intro (fun _ => ?_) (fun _ => ?_) <;> try simp -dsimp -implicitDefEqProofs only [go_sem, ↓reduceIte, Nat.reduceEqDiff, Nat.reduceLT, Nat.reduceAdd, Nat.reduceMul, Nat.reduceLeDiff, Nat.le_refl, Int.natCast_zero, Int.toNat_natCast, Int.reduceToNat, *])
      | (with_reducible refine And.intro ?_ ?_)
      | (refine Later.draw mixed rfl ?_; try simp -dsimp -implicitDefEqProofs only [go_sem, ↓reduceIte, Nat.reduceEqDiff, Nat.reduceLT, Nat.reduceAdd, Nat.reduceMul, Nat.reduceLeDiff, Nat.le_refl, Int.natCast_zero, Int.toNat_natCast, Int.reduceToNat, lp])
    all_goals (first | omega | (refine ⟨?_, ?_⟩ <;> omega) | (simp; done) | (simp; omega) | (refine ⟨?_, ?_⟩ <;> omega) | (exact rfl) | (simp; done) | (simp_all; done) | (simp_all; omega) | (exfalso; simp_all [bne]; done) | trace_state)
attribute [irreducible] nx
end Go.Vc
