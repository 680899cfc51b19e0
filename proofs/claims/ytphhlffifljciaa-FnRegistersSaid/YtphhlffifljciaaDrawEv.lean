/-
  Contracts: events that are drawn.
-/
import Derived.Test.YtphhlffifljciaaSrc2
import Derived.Test.YtphhlffifljciaaEvent4
set_option linter.unusedVariables false
set_option linter.unusedSimpArgs false
set_option linter.unnecessarySimpa false
namespace Go.Vc
open Go.Proofs
set_option maxRecDepth 100000
def stIx (n : Int) : Nat := (if (if n < 3 then n else 3) > 0 then (if n < 3 then n else 3) else 0).toNat
theorem c_l30State (n : Int) : Fn Try.prog 86 [eI n] true (· = eI (stIx n : Int)) := by
  refine Fn.of_vcN 6 [.tmp 2] Try.func86 rfl rfl rfl rfl rfl (of_decide_eq_true rfl) ?_
  simp -dsimp -implicitDefEqProofs only [go_sem, ↓reduceIte, Nat.reduceEqDiff, Nat.reduceLT, Nat.reduceAdd, Nat.reduceMul, Nat.reduceLeDiff, Nat.le_refl, Int.natCast_zero, Int.toNat_natCast, Int.reduceToNat]
  all_goals (unfold stIx; first | (simp; done) | (congr 2; split <;> split <;> omega) | trace_state)
def drawEvent (bs : List UInt8) (T : List TagM) (R : List Int) (s : Src) : EvM × Src :=
  let a := pk bs [0, 0, 0, 1, 1, 2, 3, 4] s
  let b := nx bs T.length a.2
  let c := nx bs R.length b.2
  let d := pk bs [0, c.1] c.2
  let f := if (decide ((T.length : Int) > 0)) = true then nx bs 2 d.2 else (1, d.2)
  let k := if (f.1 == 0) = true then ([0, 1, 3, 0] : List Int).getD (stIx (T.getD b.1.toNat ⟨0, 0, 0⟩).state) 0 else a.1
  let g := if (k == 0) = true then nx bs R.length f.2 else (-1, f.2)
  let z := nx bs 40 g.2
  if (z.1 == 0) = true then (⟨(pk bs [-1, 5] z.2).1, b.1, g.1, d.1⟩, (pk bs [-1, 5] z.2).2)
  else if (z.1 == 1) = true then (⟨k, (pk bs [-1, (T.length : Int)] z.2).1, g.1, d.1⟩, (pk bs [-1, (T.length : Int)] z.2).2)
  else if (z.1 == 2) = true then (⟨k, b.1, (pk bs [-1, 0, (R.length : Int)] z.2).1, d.1⟩, (pk bs [-1, 0, (R.length : Int)] z.2).2)
  else if (z.1 == 3) = true then (⟨k, b.1, g.1, (pk bs [-1, (R.length : Int)] z.2).1⟩, (pk bs [-1, (R.length : Int)] z.2).2)
  else (⟨k, b.1, g.1, d.1⟩, z.2)
theorem drawEvent_ok (bs : List UInt8) (T : List TagM) (R : List Int) {s : Src} (h : SrcOk s) : SrcOk (drawEvent bs T R s).2 := by
  have h1 := pk_ok bs [0, 0, 0, 1, 1, 2, 3, 4] h
  have h2 := (nx_ok bs T.length h1).2.2.2
  have h3 := (nx_ok bs R.length h2).2.2.2
  have h4 := pk_ok bs [0, (nx bs R.length (nx bs T.length (pk bs [0, 0, 0, 1, 1, 2, 3, 4] s).2).2).1] h3
  dsimp only [drawEvent]
  generalize pk bs [0, 0, 0, 1, 1, 2, 3, 4] s = a at *
  generalize nx bs T.length a.2 = b at *
  generalize nx bs R.length b.2 = c at *
  generalize pk bs [0, c.1] c.2 = d at *
  have h5 : SrcOk (if (decide ((T.length : Int) > 0)) = true then nx bs 2 d.2 else (1, d.2)).2 := by
    split
    · exact (nx_ok bs 2 h4).2.2.2
    · exact h4
  generalize (if (decide ((T.length : Int) > 0)) = true then nx bs 2 d.2 else (1, d.2)) = f at *
  generalize (if (f.1 == 0) = true then ([0, 1, 3, 0] : List Int).getD (stIx (T.getD b.1.toNat ⟨0, 0, 0⟩).state) 0 else a.1) = k
  have h6 : SrcOk (if (k == 0) = true then nx bs R.length f.2 else (-1, f.2)).2 := by
    split
    · exact (nx_ok bs _ h5).2.2.2
    · exact h5
  generalize (if (k == 0) = true then nx bs R.length f.2 else (-1, f.2)) = g at *
  have h7 := (nx_ok bs 40 h6).2.2.2
  generalize nx bs 40 g.2 = z at *
  split
  · exact pk_ok bs _ h7
  split
  · exact pk_ok bs _ h7
  split
  · exact pk_ok bs _ h7
  split
  · exact pk_ok bs _ h7
  · exact h7
set_option maxHeartbeats 8000000 in
theorem c_l30DrawEvent (v v2 v3 : Nat) (d2 d3 : Bool) (bs : List UInt8) (T : List TagM) (R : List Int) (s : Src) (h : SrcOk s) (hl : bs.length ≤ 4096) (hT : T.length ≤ 1048576) (hR : R.length ≤ 1048576) :
    FnM Try.prog 72 [srcB v bs s, .row v2 ⟨3, true⟩ d2 (T.map eTag), .row v3 ⟨1, false⟩ d3 (R.map eI)] [.ptr 1000000000 v 0 0, .agg [.ref 1000000001 v2 0 T.length, .ref 1000000002 v3 0 R.length]]
      (fun x io => x = eEv (drawEvent bs T R s).1 ∧ io = [srcB v bs (drawEvent bs T R s).2, .row v2 ⟨3, true⟩ d2 (T.map eTag), .row v3 ⟨1, false⟩ d3 (R.map eI)]) := by
  refine FnM.of_vcN 98 [.cell 4 42] Try.func72 rfl rfl rfl rfl rfl (of_decide_eq_true rfl) ?_
  have h1 := pk_ok bs [0, 0, 0, 1, 1, 2, 3, 4] h
  have h2 := (nx_ok bs T.length h1).2.2.2
  have h3 := (nx_ok bs R.length h2).2.2.2
  have h4 := pk_ok bs [0, (nx bs R.length (nx bs T.length (pk bs [0, 0, 0, 1, 1, 2, 3, 4] s).2).2).1] h3
  have cA := fun v v2 d ys hy => c_l01Pick v v2 d bs [0, 0, 0, 1, 1, 2, 3, 4] ys s hy (by decide) (by decide) h hl
  have cB := fun v => c_l01Next v bs T.length _ h1 hl
  have cC := fun v => c_l01Next v bs R.length _ h2 hl
  have cD := fun v v2 d ys hy => c_l01Pick v v2 d bs [0, (nx bs R.length (nx bs T.length (pk bs [0, 0, 0, 1, 1, 2, 3, 4] s).2).2).1] ys _ hy (by simp) (by simp) h3 hl
  have hb := nx_ok bs T.length h1
  dsimp only [drawEvent]
  generalize pk bs [0, 0, 0, 1, 1, 2, 3, 4] s = a at *
  generalize nx bs T.length a.2 = b at *
  generalize nx bs R.length b.2 = c at *
  generalize pk bs [0, c.1] c.2 = d at *
  simp -dsimp -implicitDefEqProofs only [go_sem, ↓reduceIte, Nat.reduceEqDiff, Nat.reduceLT, Nat.reduceAdd, Nat.reduceMul, Nat.reduceLeDiff, Nat.le_refl, Int.natCast_zero, Int.toNat_natCast, Int.reduceToNat]
  refine Later.draw mixed rfl ?_
  simp -dsimp -implicitDefEqProofs only [go_sem, ↓reduceIte, Nat.reduceEqDiff, Nat.reduceLT, Nat.reduceAdd, Nat.reduceMul, Nat.reduceLeDiff, Nat.le_refl, Int.natCast_zero, Int.toNat_natCast, Int.reduceToNat]
  (refine sCallX_io [1000000000, 7] rfl ?_; simp -dsimp -implicitDefEqProofs only [go_sem, ↓reduceIte, Nat.reduceEqDiff, Nat.reduceLT, Nat.reduceAdd, Nat.reduceMul, Nat.reduceLeDiff, Nat.le_refl, Int.natCast_zero, Int.toNat_natCast, Int.reduceToNat]; refine sCallMX_one (cA _ _ _ _ rfl) ?_; simp -dsimp -implicitDefEqProofs only [go_sem, ↓reduceIte, Nat.reduceEqDiff, Nat.reduceLT, Nat.reduceAdd, Nat.reduceMul, Nat.reduceLeDiff, Nat.le_refl, Int.natCast_zero, Int.toNat_natCast, Int.reduceToNat])
  (refine sCallX_io [1000000000] rfl ?_; simp -dsimp -implicitDefEqProofs only [go_sem, ↓reduceIte, Nat.reduceEqDiff, Nat.reduceLT, Nat.reduceAdd, Nat.reduceMul, Nat.reduceLeDiff, Nat.le_refl, Int.natCast_zero, Int.toNat_natCast, Int.reduceToNat]; refine sCallMX_one (cB _) ?_; simp -dsimp -implicitDefEqProofs only [go_sem, ↓reduceIte, Nat.reduceEqDiff, Nat.reduceLT, Nat.reduceAdd, Nat.reduceMul, Nat.reduceLeDiff, Nat.le_refl, Int.natCast_zero, Int.toNat_natCast, Int.reduceToNat])
  (refine sCallX_io [1000000000] rfl ?_; simp -dsimp -implicitDefEqProofs only [go_sem, ↓reduceIte, Nat.reduceEqDiff, Nat.reduceLT, Nat.reduceAdd, Nat.reduceMul, Nat.reduceLeDiff, Nat.le_refl, Int.natCast_zero, Int.toNat_natCast, Int.reduceToNat]; refine sCallMX_one (cC _) ?_; simp -dsimp -implicitDefEqProofs only [go_sem, ↓reduceIte, Nat.reduceEqDiff, Nat.reduceLT, Nat.reduceAdd, Nat.reduceMul, Nat.reduceLeDiff, Nat.le_refl, Int.natCast_zero, Int.toNat_natCast, Int.reduceToNat])
  (refine sCallX_io [1000000000, 20] rfl ?_; simp -dsimp -implicitDefEqProofs only [go_sem, ↓reduceIte, Nat.reduceEqDiff, Nat.reduceLT, Nat.reduceAdd, Nat.reduceMul, Nat.reduceLeDiff, Nat.le_refl, Int.natCast_zero, Int.toNat_natCast, Int.reduceToNat]; refine sCallMX_one (cD _ _ _ _ rfl) ?_; simp -dsimp -implicitDefEqProofs only [go_sem, ↓reduceIte, Nat.reduceEqDiff, Nat.reduceLT, Nat.reduceAdd, Nat.reduceMul, Nat.reduceLeDiff, Nat.le_refl, Int.natCast_zero, Int.toNat_natCast, Int.reduceToNat])
  refine ⟨by exact rfl, ?_⟩
  have cF := fun v => c_l01Next v bs 2 _ h4 hl
  have hf : SrcOk (nx bs 2 d.2).2 := (nx_ok bs 2 h4).2.2.2
  generalize nx bs 2 d.2 = f at *
  clear cA cB cC cD h1 h2 h3 h
  obtain ⟨b1, b2, b3, _⟩ := hb
  rcases hT0 : decide ((T.length : Int) > 0) with _ | _
  · clear b1 b2 b3 cF hf
    simp -dsimp -implicitDefEqProofs only [go_sem, ↓reduceIte, Nat.reduceEqDiff, Nat.reduceLT, Nat.reduceAdd, Nat.reduceMul, Nat.reduceLeDiff, Nat.le_refl, Int.natCast_zero, Int.toNat_natCast, Int.reduceToNat, hT0]
    (repeat' (first | (refine Br.intro (fun _ => ?_) (fun _ => ?_) <;> try simp -dsimp -implicitDefEqProofs only [go_sem, ↓reduceIte, Nat.reduceEqDiff, Nat.reduceLT, Nat.reduceAdd, Nat.reduceMul, Nat.reduceLeDiff, Nat.le_refl, Int.natCast_zero, Int.toNat_natCast, Int.reduceToNat, *]) | (with_reducible refine And.intro ?_ ?_) | (refine sCallT_io [1000000000] ?_; simp -dsimp -implicitDefEqProofs only [go_sem, ↓reduceIte, Nat.reduceEqDiff, Nat.reduceLT, Nat.reduceAdd, Nat.reduceMul, Nat.reduceLeDiff, Nat.le_refl, Int.natCast_zero, Int.toNat_natCast, Int.reduceToNat]; refine sCallM_one (c_l01Next _ bs _ _ (by first | assumption | exact (nx_ok _ _ (by first | assumption | exact (nx_ok _ _ (by assumption)).2.2.2)).2.2.2) hl) ?_; simp -dsimp -implicitDefEqProofs only [go_sem, ↓reduceIte, Nat.reduceEqDiff, Nat.reduceLT, Nat.reduceAdd, Nat.reduceMul, Nat.reduceLeDiff, Nat.le_refl, Int.natCast_zero, Int.toNat_natCast, Int.reduceToNat]) | (refine sCallT_io [1000000000, 67] ?_; simp -dsimp -implicitDefEqProofs only [go_sem, ↓reduceIte, Nat.reduceEqDiff, Nat.reduceLT, Nat.reduceAdd, Nat.reduceMul, Nat.reduceLeDiff, Nat.le_refl, Int.natCast_zero, Int.toNat_natCast, Int.reduceToNat]; refine sCallM_one (c_l01Pick _ _ _ bs [-1, 5] _ _ rfl (by simp) (by simp) (by first | assumption | exact (nx_ok _ _ (by first | assumption | exact (nx_ok _ _ (by assumption)).2.2.2)).2.2.2) hl) ?_; simp -dsimp -implicitDefEqProofs only [go_sem, ↓reduceIte, Nat.reduceEqDiff, Nat.reduceLT, Nat.reduceAdd, Nat.reduceMul, Nat.reduceLeDiff, Nat.le_refl, Int.natCast_zero, Int.toNat_natCast, Int.reduceToNat]) | (refine sCallT_io [1000000000, 76] ?_; simp -dsimp -implicitDefEqProofs only [go_sem, ↓reduceIte, Nat.reduceEqDiff, Nat.reduceLT, Nat.reduceAdd, Nat.reduceMul, Nat.reduceLeDiff, Nat.le_refl, Int.natCast_zero, Int.toNat_natCast, Int.reduceToNat]; refine sCallM_one (c_l01Pick _ _ _ bs [-1, (T.length : Int)] _ _ rfl (by simp) (by simp) (by first | assumption | exact (nx_ok _ _ (by first | assumption | exact (nx_ok _ _ (by assumption)).2.2.2)).2.2.2) hl) ?_; simp -dsimp -implicitDefEqProofs only [go_sem, ↓reduceIte, Nat.reduceEqDiff, Nat.reduceLT, Nat.reduceAdd, Nat.reduceMul, Nat.reduceLeDiff, Nat.le_refl, Int.natCast_zero, Int.toNat_natCast, Int.reduceToNat]) | (refine sCallT_io [1000000000, 85] ?_; simp -dsimp -implicitDefEqProofs only [go_sem, ↓reduceIte, Nat.reduceEqDiff, Nat.reduceLT, Nat.reduceAdd, Nat.reduceMul, Nat.reduceLeDiff, Nat.le_refl, Int.natCast_zero, Int.toNat_natCast, Int.reduceToNat]; refine sCallM_one (c_l01Pick _ _ _ bs [-1, 0, (R.length : Int)] _ _ rfl (by simp) (by simp) (by first | assumption | exact (nx_ok _ _ (by first | assumption | exact (nx_ok _ _ (by assumption)).2.2.2)).2.2.2) hl) ?_; simp -dsimp -implicitDefEqProofs only [go_sem, ↓reduceIte, Nat.reduceEqDiff, Nat.reduceLT, Nat.reduceAdd, Nat.reduceMul, Nat.reduceLeDiff, Nat.le_refl, Int.natCast_zero, Int.toNat_natCast, Int.reduceToNat]) | (refine sCallT_io [1000000000, 94] ?_; simp -dsimp -implicitDefEqProofs only [go_sem, ↓reduceIte, Nat.reduceEqDiff, Nat.reduceLT, Nat.reduceAdd, Nat.reduceMul, Nat.reduceLeDiff, Nat.le_refl, Int.natCast_zero, Int.toNat_natCast, Int.reduceToNat]; refine sCallM_one (c_l01Pick _ _ _ bs [-1, (R.length : Int)] _ _ rfl (by simp) (by simp) (by first | assumption | exact (nx_ok _ _ (by first | assumption | exact (nx_ok _ _ (by assumption)).2.2.2)).2.2.2) hl) ?_; simp -dsimp -implicitDefEqProofs only [go_sem, ↓reduceIte, Nat.reduceEqDiff, Nat.reduceLT, Nat.reduceAdd, Nat.reduceMul, Nat.reduceLeDiff, Nat.le_refl, Int.natCast_zero, Int.toNat_natCast, Int.reduceToNat]))); all_goals (first | omega | (refine ⟨?_, ?_⟩ <;> omega) | (exact rfl) | (simp [*]; done) | trace_state)
  · have hp := of_decide_eq_true hT0
    have hbT : b.1 < T.length := by
      by_cases hc : (T.length : Int) ≤ 1
      · rw [b2 hc]; omega
      · exact b3 (by omega)
    have hin : isIn b.1 0 ((T.length : Int) - 1) = true := by simp [isIn]; omega
    have hg : T[b.1.toNat]? = some (T.getD b.1.toNat ⟨0, 0, 0⟩) := by simp [List.getD_eq_getElem?_getD, show b.1.toNat < T.length by omega]
    clear b2 b3
    simp -dsimp -implicitDefEqProofs only [go_sem, ↓reduceIte, Nat.reduceEqDiff, Nat.reduceLT, Nat.reduceAdd, Nat.reduceMul, Nat.reduceLeDiff, Nat.le_refl, Int.natCast_zero, Int.toNat_natCast, Int.reduceToNat, hT0]
    (refine sCallT_io [1000000000] ?_; simp -dsimp -implicitDefEqProofs only [go_sem, ↓reduceIte, Nat.reduceEqDiff, Nat.reduceLT, Nat.reduceAdd, Nat.reduceMul, Nat.reduceLeDiff, Nat.le_refl, Int.natCast_zero, Int.toNat_natCast, Int.reduceToNat]; refine sCallM_one (cF _) ?_; simp -dsimp -implicitDefEqProofs only [go_sem, ↓reduceIte, Nat.reduceEqDiff, Nat.reduceLT, Nat.reduceAdd, Nat.reduceMul, Nat.reduceLeDiff, Nat.le_refl, Int.natCast_zero, Int.toNat_natCast, Int.reduceToNat])
    clear cF
    rcases hf0 : (f.1 == 0) with _ | _
    · clear b1 hbT hin hg
      simp -dsimp -implicitDefEqProofs only [go_sem, ↓reduceIte, Nat.reduceEqDiff, Nat.reduceLT, Nat.reduceAdd, Nat.reduceMul, Nat.reduceLeDiff, Nat.le_refl, Int.natCast_zero, Int.toNat_natCast, Int.reduceToNat, hf0]
      (repeat' (first | (refine Br.intro (fun _ => ?_) (fun _ => ?_) <;> try simp -dsimp -implicitDefEqProofs only [go_sem, ↓reduceIte, Nat.reduceEqDiff, Nat.reduceLT, Nat.reduceAdd, Nat.reduceMul, Nat.reduceLeDiff, Nat.le_refl, Int.natCast_zero, Int.toNat_natCast, Int.reduceToNat, *]) | (with_reducible refine And.intro ?_ ?_) | (refine sCallT_io [1000000000] ?_; simp -dsimp -implicitDefEqProofs only [go_sem, ↓reduceIte, Nat.reduceEqDiff, Nat.reduceLT, Nat.reduceAdd, Nat.reduceMul, Nat.reduceLeDiff, Nat.le_refl, Int.natCast_zero, Int.toNat_natCast, Int.reduceToNat]; refine sCallM_one (c_l01Next _ bs _ _ (by first | assumption | exact (nx_ok _ _ (by first | assumption | exact (nx_ok _ _ (by assumption)).2.2.2)).2.2.2) hl) ?_; simp -dsimp -implicitDefEqProofs only [go_sem, ↓reduceIte, Nat.reduceEqDiff, Nat.reduceLT, Nat.reduceAdd, Nat.reduceMul, Nat.reduceLeDiff, Nat.le_refl, Int.natCast_zero, Int.toNat_natCast, Int.reduceToNat]) | (refine sCallT_io [1000000000, 67] ?_; simp -dsimp -implicitDefEqProofs only [go_sem, ↓reduceIte, Nat.reduceEqDiff, Nat.reduceLT, Nat.reduceAdd, Nat.reduceMul, Nat.reduceLeDiff, Nat.le_refl, Int.natCast_zero, Int.toNat_natCast, Int.reduceToNat]; refine sCallM_one (c_l01Pick _ _ _ bs [-1, 5] _ _ rfl (by simp) (by simp) (by first | assumption | exact (nx_ok _ _ (by first | assumption | exact (nx_ok _ _ (by assumption)).2.2.2)).2.2.2) hl) ?_; simp -dsimp -implicitDefEqProofs only [go_sem, ↓reduceIte, Nat.reduceEqDiff, Nat.reduceLT, Nat.reduceAdd, Nat.reduceMul, Nat.reduceLeDiff, Nat.le_refl, Int.natCast_zero, Int.toNat_natCast, Int.reduceToNat]) | (refine sCallT_io [1000000000, 76] ?_; simp -dsimp -implicitDefEqProofs only [go_sem, ↓reduceIte, Nat.reduceEqDiff, Nat.reduceLT, Nat.reduceAdd, Nat.reduceMul, Nat.reduceLeDiff, Nat.le_refl, Int.natCast_zero, Int.toNat_natCast, Int.reduceToNat]; refine sCallM_one (c_l01Pick _ _ _ bs [-1, (T.length : Int)] _ _ rfl (by simp) (by simp) (by first | assumption | exact (nx_ok _ _ (by first | assumption | exact (nx_ok _ _ (by assumption)).2.2.2)).2.2.2) hl) ?_; simp -dsimp -implicitDefEqProofs only [go_sem, ↓reduceIte, Nat.reduceEqDiff, Nat.reduceLT, Nat.reduceAdd, Nat.reduceMul, Nat.reduceLeDiff, Nat.le_refl, Int.natCast_zero, Int.toNat_natCast, Int.reduceToNat]) | (refine sCallT_io [1000000000, 85] ?_; simp -dsimp -implicitDefEqProofs only [go_sem, ↓reduceIte, Nat.reduceEqDiff, Nat.reduceLT, Nat.reduceAdd, Nat.reduceMul, Nat.reduceLeDiff, Nat.le_refl, Int.natCast_zero, Int.toNat_natCast, Int.reduceToNat]; refine sCallM_one (c_l01Pick _ _ _ bs [-1, 0, (R.length : Int)] _ _ rfl (by simp) (by simp) (by first | assumption | exact (nx_ok _ _ (by first | assumption | exact (nx_ok _ _ (by assumption)).2.2.2)).2.2.2) hl) ?_; simp -dsimp -implicitDefEqProofs only [go_sem, ↓reduceIte, Nat.reduceEqDiff, Nat.reduceLT, Nat.reduceAdd, Nat.reduceMul, Nat.reduceLeDiff, Nat.le_refl, Int.natCast_zero, Int.toNat_natCast, Int.reduceToNat]) | (refine sCallT_io [1000000000, 94] ?_; simp -dsimp -implicitDefEqProofs only [go_sem, ↓reduceIte, Nat.reduceEqDiff, Nat.reduceLT, Nat.reduceAdd, Nat.reduceMul, Nat.reduceLeDiff, Nat.le_refl, Int.natCast_zero, Int.toNat_natCast, Int.reduceToNat]; refine sCallM_one (c_l01Pick _ _ _ bs [-1, (R.length : Int)] _ _ rfl (by simp) (by simp) (by first | assumption | exact (nx_ok _ _ (by first | assumption | exact (nx_ok _ _ (by assumption)).2.2.2)).2.2.2) hl) ?_; simp -dsimp -implicitDefEqProofs only [go_sem, ↓reduceIte, Nat.reduceEqDiff, Nat.reduceLT, Nat.reduceAdd, Nat.reduceMul, Nat.reduceLeDiff, Nat.le_refl, Int.natCast_zero, Int.toNat_natCast, Int.reduceToNat]))); all_goals (first | omega | (refine ⟨?_, ?_⟩ <;> omega) | (exact rfl) | (simp [*]; done) | trace_state)
    · have hst : stIx (T.getD b.1.toNat ⟨0, 0, 0⟩).state < 4 := by unfold stIx; omega
      have hk : ∀ i, i < 4 → ([eI 0, eI 1, eI 3, eI 0] : List AV)[i]? = some (eI (([0, 1, 3, 0] : List Int).getD i 0)) := fun i hi => by
        match i, hi with
        | 0, _ => rfl
        | 1, _ => rfl
        | 2, _ => rfl
        | 3, _ => rfl
      have hk := hk _ hst
      generalize T.getD b.1.toNat ⟨0, 0, 0⟩ = t at *
      generalize ([0, 1, 3, 0] : List Int).getD (stIx t.state) 0 = k at *
      simp -dsimp -implicitDefEqProofs only [go_sem, ↓reduceIte, Nat.reduceEqDiff, Nat.reduceLT, Nat.reduceAdd, Nat.reduceMul, Nat.reduceLeDiff, Nat.le_refl, Int.natCast_zero, Int.toNat_natCast, Int.reduceToNat, hf0]
      repeat' first
        | (with_reducible refine And.intro ?_ ?_)
        | (refine sCallT_one (c_l01In b.1 0 ((T.length : Int) - 1)) ?_; simp -dsimp -implicitDefEqProofs only [go_sem, ↓reduceIte, Nat.reduceEqDiff, Nat.reduceLT, Nat.reduceAdd, Nat.reduceMul, Nat.reduceLeDiff, Nat.le_refl, Int.natCast_zero, Int.toNat_natCast, Int.reduceToNat, hin])
      all_goals try (first | omega | (refine ⟨?_, ?_⟩ <;> omega) | (exact rfl))
      simp -dsimp -implicitDefEqProofs only [go_sem, ↓reduceIte, Nat.reduceEqDiff, Nat.reduceLT, Nat.reduceAdd, Nat.reduceMul, Nat.reduceLeDiff, Nat.le_refl, Int.natCast_zero, Int.toNat_natCast, Int.reduceToNat, hg]
      refine sCallT_one (c_l30State t.state) ?_
      simp -dsimp -implicitDefEqProofs only [go_sem, ↓reduceIte, Nat.reduceEqDiff, Nat.reduceLT, Nat.reduceAdd, Nat.reduceMul, Nat.reduceLeDiff, Nat.le_refl, Int.natCast_zero, Int.toNat_natCast, Int.reduceToNat, hk]
      repeat' (with_reducible refine And.intro ?_ ?_)
      all_goals try (first | omega | (refine ⟨?_, ?_⟩ <;> omega))
      clear hst hk hg hin hbT b1 hp
      (repeat' (first | (refine Br.intro (fun _ => ?_) (fun _ => ?_) <;> try simp -dsimp -implicitDefEqProofs only [go_sem, ↓reduceIte, Nat.reduceEqDiff, Nat.reduceLT, Nat.reduceAdd, Nat.reduceMul, Nat.reduceLeDiff, Nat.le_refl, Int.natCast_zero, Int.toNat_natCast, Int.reduceToNat, *]) | (with_reducible refine And.intro ?_ ?_) | (refine sCallT_io [1000000000] ?_; simp -dsimp -implicitDefEqProofs only [go_sem, ↓reduceIte, Nat.reduceEqDiff, Nat.reduceLT, Nat.reduceAdd, Nat.reduceMul, Nat.reduceLeDiff, Nat.le_refl, Int.natCast_zero, Int.toNat_natCast, Int.reduceToNat]; refine sCallM_one (c_l01Next _ bs _ _ (by first | assumption | exact (nx_ok _ _ (by first | assumption | exact (nx_ok _ _ (by assumption)).2.2.2)).2.2.2) hl) ?_; simp -dsimp -implicitDefEqProofs only [go_sem, ↓reduceIte, Nat.reduceEqDiff, Nat.reduceLT, Nat.reduceAdd, Nat.reduceMul, Nat.reduceLeDiff, Nat.le_refl, Int.natCast_zero, Int.toNat_natCast, Int.reduceToNat]) | (refine sCallT_io [1000000000, 67] ?_; simp -dsimp -implicitDefEqProofs only [go_sem, ↓reduceIte, Nat.reduceEqDiff, Nat.reduceLT, Nat.reduceAdd, Nat.reduceMul, Nat.reduceLeDiff, Nat.le_refl, Int.natCast_zero, Int.toNat_natCast, Int.reduceToNat]; refine sCallM_one (c_l01Pick _ _ _ bs [-1, 5] _ _ rfl (by simp) (by simp) (by first | assumption | exact (nx_ok _ _ (by first | assumption | exact (nx_ok _ _ (by assumption)).2.2.2)).2.2.2) hl) ?_; simp -dsimp -implicitDefEqProofs only [go_sem, ↓reduceIte, Nat.reduceEqDiff, Nat.reduceLT, Nat.reduceAdd, Nat.reduceMul, Nat.reduceLeDiff, Nat.le_refl, Int.natCast_zero, Int.toNat_natCast, Int.reduceToNat]) | (refine sCallT_io [1000000000, 76] ?_; simp -dsimp -implicitDefEqProofs only [go_sem, ↓reduceIte, Nat.reduceEqDiff, Nat.reduceLT, Nat.reduceAdd, Nat.reduceMul, Nat.reduceLeDiff, Nat.le_refl, Int.natCast_zero, Int.toNat_natCast, Int.reduceToNat]; refine sCallM_one (c_l01Pick _ _ _ bs [-1, (T.length : Int)] _ _ rfl (by simp) (by simp) (by first | assumption | exact (nx_ok _ _ (by first | assumption | exact (nx_ok _ _ (by assumption)).2.2.2)).2.2.2) hl) ?_; simp -dsimp -implicitDefEqProofs only [go_sem, ↓reduceIte, Nat.reduceEqDiff, Nat.reduceLT, Nat.reduceAdd, Nat.reduceMul, Nat.reduceLeDiff, Nat.le_refl, Int.natCast_zero, Int.toNat_natCast, Int.reduceToNat]) | (refine sCallT_io [1000000000, 85] ?_; simp -dsimp -implicitDefEqProofs only [go_sem, ↓reduceIte, Nat.reduceEqDiff, Nat.reduceLT, Nat.reduceAdd, Nat.reduceMul, Nat.reduceLeDiff, Nat.le_refl, Int.natCast_zero, Int.toNat_natCast, Int.reduceToNat]; refine sCallM_one (c_l01Pick _ _ _ bs [-1, 0, (R.length : Int)] _ _ rfl (by simp) (by simp) (by first | assumption | exact (nx_ok _ _ (by first | assumption | exact (nx_ok _ _ (by assumption)).2.2.2)).2.2.2) hl) ?_; simp -dsimp -implicitDefEqProofs only [go_sem, ↓reduceIte, Nat.reduceEqDiff, Nat.reduceLT, Nat.reduceAdd, Nat.reduceMul, Nat.reduceLeDiff, Nat.le_refl, Int.natCast_zero, Int.toNat_natCast, Int.reduceToNat]) | (refine sCallT_io [1000000000, 94] ?_; simp -dsimp -implicitDefEqProofs only [go_sem, ↓reduceIte, Nat.reduceEqDiff, Nat.reduceLT, Nat.reduceAdd, Nat.reduceMul, Nat.reduceLeDiff, Nat.le_refl, Int.natCast_zero, Int.toNat_natCast, Int.reduceToNat]; refine sCallM_one (c_l01Pick _ _ _ bs [-1, (R.length : Int)] _ _ rfl (by simp) (by simp) (by first | assumption | exact (nx_ok _ _ (by first | assumption | exact (nx_ok _ _ (by assumption)).2.2.2)).2.2.2) hl) ?_; simp -dsimp -implicitDefEqProofs only [go_sem, ↓reduceIte, Nat.reduceEqDiff, Nat.reduceLT, Nat.reduceAdd, Nat.reduceMul, Nat.reduceLeDiff, Nat.le_refl, Int.natCast_zero, Int.toNat_natCast, Int.reduceToNat]))); all_goals (first | omega | (refine ⟨?_, ?_⟩ <;> omega) | (exact rfl) | (simp [*]; done) | trace_state)
end Go.Vc
