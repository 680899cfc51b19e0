import Derived.Test.YtnmaeefcjdbpcaaGreatDoorSources
import Derived.Test.YtnmaeefcjdbpcaaGreatDoorEvents
/-
  Contracts: events that are drawn.
-/
set_option linter.unusedVariables false
set_option linter.unusedSimpArgs false
set_option linter.unnecessarySimpa false
namespace Go.Vc
open Go.Proofs
set_option maxRecDepth 100000
def stIx (n : Int) : Nat := (if (if n < 3 then n else 3) > 0 then (if n < 3 then n else 3) else 0).toNat
theorem c_l30State (n : Int) : Fn Tryz.prog 102 [eI n] true (· = eI (stIx n : Int)) := by
  refine Fn.of_vcN 6 [.tmp 2] Tryz.func102 rfl rfl rfl rfl rfl (of_decide_eq_true rfl) ?_
  simp -dsimp -implicitDefEqProofs only [go_sem, ↓reduceIte, Nat.reduceEqDiff, Nat.reduceLT, Nat.reduceAdd, Nat.reduceMul, Nat.reduceLeDiff, Nat.le_refl, Int.natCast_zero, Int.toNat_natCast, Int.reduceToNat]
  all_goals (unfold stIx; first | (simp; done) | (congr 2; split <;> split <;> omega) | trace_state)
def drawEvent (bs : List UInt8) (T : List TagM) (R : List Int) (s : Src) : EvM × Src :=
  let a := pk bs [0, 0, 0, 1, 1, 2, 3, 4] s
  let b := nx bs T.length a.2
  let c := nx bs R.length b.2
  let d := pk bs [0, c.1] c.2
  let f := if (decide ((T.length : Int) > 0)) = true then nx bs 2 d.2 else (1, d.2)
  let k := if (f.1 == 0) = true then ([0, 1, 3, 0] : List Int).getD (stIx (T.getD b.1.toNat ⟨0, 0, 0⟩).state) 0 else a.1
  let g := if (k == 0) = true then nx bs R.length f.2 else (-1, f.2)
  let z := nx bs 40 g.2
  if (z.1 == 0) = true then (⟨(pk bs [-1, 5] z.2).1, b.1, g.1, d.1⟩, (pk bs [-1, 5] z.2).2)
  else if (z.1 == 1) = true then (⟨k, (pk bs [-1, (T.length : Int)] z.2).1, g.1, d.1⟩, (pk bs [-1, (T.length : Int)] z.2).2)
  else if (z.1 == 2) = true then (⟨k, b.1, (pk bs [-1, 0, (R.length : Int)] z.2).1, d.1⟩, (pk bs [-1, 0, (R.length : Int)] z.2).2)
  else if (z.1 == 3) = true then (⟨k, b.1, g.1, (pk bs [-1, (R.length : Int)] z.2).1⟩, (pk bs [-1, (R.length : Int)] z.2).2)
  else (⟨k, b.1, g.1, d.1⟩, z.2)
theorem drawEvent_ok (bs : List UInt8) (T : List TagM) (R : List Int) {s : Src} (h : SrcOk s) : SrcOk (drawEvent bs T R s).2 := by
  have h1 := pk_ok bs [0, 0, 0, 1, 1, 2, 3, 4] h
  have h2 := (nx_ok bs T.length h1).2.2.2
  have h3 := (nx_ok bs R.length h2).2.2.2
  have h4 := pk_ok bs [0, (nx bs R.length (nx bs T.length (pk bs [0, 0, 0, 1, 1, 2, 3, 4] s).2).2).1] h3
  dsimp only [drawEvent]
  generalize pk bs [0, 0, 0, 1, 1, 2, 3, 4] s = a at *
  generalize nx bs T.length a.2 = b at *
  generalize nx bs R.length b.2 = c at *
  generalize pk bs [0, c.1] c.2 = d at *
  have h5 : SrcOk (if (decide ((T.length : Int) > 0)) = true then nx bs 2 d.2 else (1, d.2)).2 := by
    split
    · exact (nx_ok bs 2 h4).2.2.2
    · exact h4
  generalize (if (decide ((T.length : Int) > 0)) = true then nx bs 2 d.2 else (1, d.2)) = f at *
  generalize (if (f.1 == 0) = true then ([0, 1, 3, 0] : List Int).getD (stIx (T.getD b.1.toNat ⟨0, 0, 0⟩).state) 0 else a.1) = k
  have h6 : SrcOk (if (k == 0) = true then nx bs R.length f.2 else (-1, f.2)).2 := by
    split
    · exact (nx_ok bs _ h5).2.2.2
    · exact h5
  generalize (if (k == 0) = true then nx bs R.length f.2 else (-1, f.2)) = g at *
  have h7 := (nx_ok bs 40 h6).2.2.2
  generalize nx bs 40 g.2 = z at *
  split
  · exact pk_ok bs _ h7
  split
  · exact pk_ok bs _ h7
  split
  · exact pk_ok bs _ h7
  split
  · exact pk_ok bs _ h7
  · exact h7
set_option maxHeartbeats 8000000 in
theorem c_l30DrawEvent (v v2 v3 : Nat) (d2 d3 : Bool) (bs : List UInt8) (T : List TagM) (R : List Int) (s : Src) (h : SrcOk s) (hl : bs.length ≤ 4096) (hT : T.length ≤ 1048576) (hR : R.length ≤ 1048576) :
    FnM Tryz.prog 93 [srcB v bs s, .row v2 ⟨3, true⟩ d2 (T.map eTag), .row v3 ⟨1, false⟩ d3 (R.map eI)] [.ptr 1000000000 v 0 0, .agg [.ref 1000000001 v2 0 T.length, .ref 1000000002 v3 0 R.length]]
      (fun x io => x = eEv (drawEvent bs T R s).1 ∧ io = [srcB v bs (drawEvent bs T R s).2, .row v2 ⟨3, true⟩ d2 (T.map eTag), .row v3 ⟨1, false⟩ d3 (R.map eI)]) := by
  refine FnM.of_vcN 98 [.cell 4 39] Tryz.func93 rfl rfl rfl rfl rfl (of_decide_eq_true rfl) ?_
  have h1 := pk_ok bs [0, 0, 0, 1, 1, 2, 3, 4] h
  have h2 := (nx_ok bs T.length h1).2.2.2
  have h3 := (nx_ok bs R.length h2).2.2.2
  have h4 := pk_ok bs [0, (nx bs R.length (nx bs T.length (pk bs [0, 0, 0, 1, 1, 2, 3, 4] s).2).2).1] h3
  have cA := fun v v2 d ys hy => c_l01Pick v v2 d bs [0, 0, 0, 1, 1, 2, 3, 4] ys s hy (by decide) (by decide) h hl
  have cB := fun v => c_l01Next v bs T.length _ h1 hl
  have cC := fun v => c_l01Next v bs R.length _ h2 hl
  have cD := fun v v2 d ys hy => c_l01Pick v v2 d bs [0, (nx bs R.length (nx bs T.length (pk bs [0, 0, 0, 1, 1, 2, 3, 4] s).2).2).1] ys _ hy (by simp) (by simp) h3 hl
  have hb := nx_ok bs T.length h1
  dsimp only [drawEvent]
  generalize pk bs [0, 0, 0, 1, 1, 2, 3, 4] s = a at *
  generalize nx bs T.length a.2 = b at *
  generalize nx bs R.length b.2 = c at *
  generalize pk bs [0, c.1] c.2 = d at *
  simp -dsimp -implicitDefEqProofs only [go_sem, ↓reduceIte, Nat.reduceEqDiff, Nat.reduceLT, Nat.reduceAdd, Nat.reduceMul, Nat.reduceLeDiff, Nat.le_refl, Int.natCast_zero, Int.toNat_natCast, Int.reduceToNat]
  refine Later.draw mixed rfl ?_
  simp -dsimp -implicitDefEqProofs only [go_sem, ↓reduceIte, Nat.reduceEqDiff, Nat.reduceLT, Nat.reduceAdd, Nat.reduceMul, Nat.reduceLeDiff, Nat.le_refl, Int.natCast_zero, Int.toNat_natCast, Int.reduceToNat]
  (refine sCallX_io [1000000000, 7] rfl ?_; simp -dsimp -implicitDefEqProofs only [go_sem, ↓reduceIte, Nat.reduceEqDiff, Nat.reduceLT, Nat.reduceAdd, Nat.reduceMul, Nat.reduceLeDiff, Nat.le_refl, Int.natCast_zero, Int.toNat_natCast, Int.reduceToNat]; refine sCallMX_one (cA _ _ _ _ rfl) ?_; simp -dsimp -implicitDefEqProofs only [go_sem, ↓reduceIte, Nat.reduceEqDiff, Nat.reduceLT, Nat.reduceAdd, Nat.reduceMul, Nat.reduceLeDiff, Nat.le_refl, Int.natCast_zero, Int.toNat_natCast, Int.reduceToNat])
  (refine sCallX_io [1000000000] rfl ?_; simp -dsimp -implicitDefEqProofs only [go_sem, ↓reduceIte, Nat.reduceEqDiff, Nat.reduceLT, Nat.reduceAdd, Nat.reduceMul, Nat.reduceLeDiff, Nat.le_refl, Int.natCast_zero, Int.toNat_natCast, Int.reduceToNat]; refine sCallMX_one (cB _) ?_; simp -dsimp -implicitDefEqProofs only [go_sem, ↓reduceIte, Nat.reduceEqDiff, Nat.reduceLT, Nat.reduceAdd, Nat.reduceMul, Nat.reduceLeDiff, Nat.le_refl, Int.natCast_zero, Int.toNat_natCast, Int.reduceToNat])
  (refine sCallX_io [1000000000] rfl ?_; simp -dsimp -implicitDefEqProofs only [go_sem, ↓reduceIte, Nat.reduceEqDiff, Nat.reduceLT, Nat.reduceAdd, Nat.reduceMul, Nat.reduceLeDiff, Nat.le_refl, Int.natCast_zero, Int.toNat_natCast, Int.reduceToNat]; refine sCallMX_one (cC _) ?_; simp -dsimp -implicitDefEqProofs only [go_sem, ↓reduceIte, Nat.reduceEqDiff, Nat.reduceLT, Nat.reduceAdd, Nat.reduceMul, Nat.reduceLeDiff, Nat.le_refl, Int.natCast_zero, Int.toNat_natCast, Int.reduceToNat])
  (refine sCallX_io [1000000000, 20] rfl ?_; simp -dsimp -implicitDefEqProofs only [go_sem, ↓reduceIte, Nat.reduceEqDiff, Nat.reduceLT, Nat.reduceAdd, Nat.reduceMul, Nat.reduceLeDiff, Nat.le_refl, Int.natCast_zero, Int.toNat_natCast, Int.reduceToNat]; refine sCallMX_one (cD _ _ _ _ rfl) ?_; simp -dsimp -implicitDefEqProofs only [go_sem, ↓reduceIte, Nat.reduceEqDiff, Nat.reduceLT, Nat.reduceAdd, Nat.reduceMul, Nat.reduceLeDiff, Nat.le_refl, Int.natCast_zero, Int.toNat_natCast, Int.reduceToNat])
  refine ⟨by exact rfl, ?_⟩
  have cF := fun v => c_l01Next v bs 2 _ h4 hl
  have hf : SrcOk (nx bs 2 d.2).2 := (nx_ok bs 2 h4).2.2.2
  generalize nx bs 2 d.2 = f at *
  clear cA cB cC cD h1 h2 h3 h
  obtain ⟨b1, b2, b3, _⟩ := hb
  rcases hT0 : decide ((T.length : Int) > 0) with _ | _
  · clear b1 b2 b3 cF hf
    simp -dsimp -implicitDefEqProofs only [go_sem, ↓reduceIte, Nat.reduceEqDiff, Nat.reduceLT, Nat.reduceAdd, Nat.reduceMul, Nat.reduceLeDiff, Nat.le_refl, Int.natCast_zero, Int.toNat_natCast, Int.reduceToNat, hT0]
    (repeat' (first | (refine Br.intro (fun _ => ?_) (fun _ => ?_) <;> try simp -dsimp -implicitDefEqProofs only [go_sem, ↓reduceIte, Nat.reduceEqDiff, Nat.reduceLT, Nat.reduceAdd, Nat.reduceMul, Nat.reduceLeDiff, Nat.le_refl, Int.natCast_zero, Int.toNat_natCast, Int.reduceToNat, *]) | (with_reducible refine And.intro ?_ ?_) | (refine sCallT_io [1000000000] ?_; simp -dsimp -implicitDefEqProofs only [go_sem, ↓reduceIte, Nat.reduceEqDiff, Nat.reduceLT, Nat.reduceAdd, Nat.reduceMul, Nat.reduceLeDiff, Nat.le_refl, Int.natCast_zero, Int.toNat_natCast, Int.reduceToNat]; refine sCallM_one (c_l01Next _ bs _ _ (by first | assumption | exact (nx_ok _ _ (by first | assumption | exact (nx_ok _ _ (by assumption)).2.2.2)).2.2.2) hl) ?_; simp -dsimp -implicitDefEqProofs only [go_sem, ↓reduceIte, Nat.reduceEqDiff, Nat.reduceLT, Nat.reduceAdd, Nat.reduceMul, Nat.reduceLeDiff, Nat.le_refl, Int.natCast_zero, Int.toNat_natCast, Int.reduceToNat]) | (refine sCallT_io [1000000000, 67] ?_; simp -dsimp -implicitDefEqProofs only [go_sem, ↓reduceIte, Nat.reduceEqDiff, Nat.reduceLT, Nat.reduceAdd, Nat.reduceMul, Nat.reduceLeDiff, Nat.le_refl, Int.natCast_zero, Int.toNat_natCast, Int.reduceToNat]; refine sCallM_one (c_l01Pick _ _ _ bs [-1, 5] _ _ rfl (by simp) (by simp) (by first | assumption | exact (nx_ok _ _ (by first | assumption | exact (nx_ok _ _ (by assumption)).2.2.2)).2.2.2) hl) ?_; simp -dsimp -implicitDefEqProofs only [go_sem, ↓reduceIte, Nat.reduceEqDiff, Nat.reduceLT, Nat.reduceAdd, Nat.reduceMul, Nat.reduceLeDiff, Nat.le_refl, Int.natCast_zero, Int.toNat_natCast, Int.reduceToNat]) | (refine sCallT_io [1000000000, 76] ?_; simp -dsimp -implicitDefEqProofs only [go_sem, ↓reduceIte, Nat.reduceEqDiff, Nat.reduceLT, Nat.reduceAdd, Nat.reduceMul, Nat.reduceLeDiff, Nat.le_refl, Int.natCast_zero, Int.toNat_natCast, Int.reduceToNat]; refine sCallM_one (c_l01Pick _ _ _ bs [-1, (T.length : Int)] _ _ rfl (by simp) (by simp) (by first | assumption | exact (nx_ok _ _ (by first | assumption | exact (nx_ok _ _ (by assumption)).2.2.2)).2.2.2) hl) ?_; simp -dsimp -implicitDefEqProofs only [go_sem, ↓reduceIte, Nat.reduceEqDiff, Nat.reduceLT, Nat.reduceAdd, Nat.reduceMul, Nat.reduceLeDiff, Nat.le_refl, Int.natCast_zero, Int.toNat_natCast, Int.reduceToNat]) | (refine sCallT_io [1000000000, 85] ?_; simp -dsimp -implicitDefEqProofs only [go_sem, ↓reduceIte, Nat.reduceEqDiff, Nat.reduceLT, Nat.reduceAdd, Nat.reduceMul, Nat.reduceLeDiff, Nat.le_refl, Int.natCast_zero, Int.toNat_natCast, Int.reduceToNat]; refine sCallM_one (c_l01Pick _ _ _ bs [-1, 0, (R.length : Int)] _ _ rfl (by simp) (by simp) (by first | assumption | exact (nx_ok _ _ (by first | assumption | exact (nx_ok _ _ (by assumption)).2.2.2)).2.2.2) hl) ?_; simp -dsimp -implicitDefEqProofs only [go_sem, ↓reduceIte, Nat.reduceEqDiff, Nat.reduceLT, Nat.reduceAdd, Nat.reduceMul, Nat.reduceLeDiff, Nat.le_refl, Int.natCast_zero, Int.toNat_natCast, Int.reduceToNat]) | (refine sCallT_io [1000000000, 94] ?_; simp -dsimp -implicitDefEqProofs only [go_sem, ↓reduceIte, Nat.reduceEqDiff, Nat.reduceLT, Nat.reduceAdd, Nat.reduceMul, Nat.reduceLeDiff, Nat.le_refl, Int.natCast_zero, Int.toNat_natCast, Int.reduceToNat]; refine sCallM_one (c_l01Pick _ _ _ bs [-1, (R.length : Int)] _ _ rfl (by simp) (by simp) (by first | assumption | exact (nx_ok _ _ (by first | assumption | exact (nx_ok _ _ (by assumption)).2.2.2)).2.2.2) hl) ?_; simp -dsimp -implicitDefEqProofs only [go_sem, ↓reduceIte, Nat.reduceEqDiff, Nat.reduceLT, Nat.reduceAdd, Nat.reduceMul, Nat.reduceLeDiff, Nat.le_refl, Int.natCast_zero, Int.toNat_natCast, Int.reduceToNat]))); all_goals (first | omega | (refine ⟨?_, ?_⟩ <;> omega) | (exact rfl) | (simp [*]; done) | trace_state)
  · have hp := of_decide_eq_true hT0
    have hbT : b.1 < T.length := by
      by_cases hc : (T.length : Int) ≤ 1
      · rw [b2 hc]; omega
      · exact b3 (by omega)
    have hin : isIn b.1 0 ((T.length : Int) - 1) = true := by simp [isIn]; omega
    have hg : T[b.1.toNat]? = some (T.getD b.1.toNat ⟨0, 0, 0⟩) := by simp [List.getD_eq_getElem?_getD, show b.1.toNat < T.length by omega]
    clear b2 b3
    simp -dsimp -implicitDefEqProofs only [go_sem, ↓reduceIte, Nat.reduceEqDiff, Nat.reduceLT, Nat.reduceAdd, Nat.reduceMul, Nat.reduceLeDiff, Nat.le_refl, Int.natCast_zero, Int.toNat_natCast, Int.reduceToNat, hT0]
    (refine sCallT_io [1000000000] ?_; simp -dsimp -implicitDefEqProofs only [go_sem, ↓reduceIte, Nat.reduceEqDiff, Nat.reduceLT, Nat.reduceAdd, Nat.reduceMul, Nat.reduceLeDiff, Nat.le_refl, Int.natCast_zero, Int.toNat_natCast, Int.reduceToNat]; refine sCallM_one (cF _) ?_; simp -dsimp -implicitDefEqProofs only [go_sem, ↓reduceIte, Nat.reduceEqDiff, Nat.reduceLT, Nat.reduceAdd, Nat.reduceMul, Nat.reduceLeDiff, Nat.le_refl, Int.natCast_zero, Int.toNat_natCast, Int.reduceToNat])
    clear cF
    rcases hf0 : (f.1 == 0) with _ | _
    · clear b1 hbT hin hg
      simp -dsimp -implicitDefEqProofs only [go_sem, ↓reduceIte, Nat.reduceEqDiff, Nat.reduceLT, Nat.reduceAdd, Nat.reduceMul, Nat.reduceLeDiff, Nat.le_refl, Int.natCast_zero, Int.toNat_natCast, Int.reduceToNat, hf0]
      (repeat' (first | (refine Br.intro (fun _ => ?_) (fun _ => ?_) <;> try simp -dsimp -implicitDefEqProofs only [go_sem, ↓reduceIte, Nat.reduceEqDiff, Nat.reduceLT, Nat.reduceAdd, Nat.reduceMul, Nat.reduceLeDiff, Nat.le_refl, Int.natCast_zero, Int.toNat_natCast, Int.reduceToNat, *]) | (with_reducible refine And.intro ?_ ?_) | (refine sCallT_io [1000000000] ?_; simp -dsimp -implicitDefEqProofs only [go_sem, ↓reduceIte, Nat.reduceEqDiff, Nat.reduceLT, Nat.reduceAdd, Nat.reduceMul, Nat.reduceLeDiff, Nat.le_refl, Int.natCast_zero, Int.toNat_natCast, Int.reduceToNat]; refine sCallM_one (c_l01Next _ bs _ _ (by first | assumption | exact (nx_ok _ _ (by first | assumption | exact (nx_ok _ _ (by assumption)).2.2.2)).2.2.2) hl) ?_; simp -dsimp -implicitDefEqProofs only [go_sem, ↓reduceIte, Nat.reduceEqDiff, Nat.reduceLT, Nat.reduceAdd, Nat.reduceMul, Nat.reduceLeDiff, Nat.le_refl, Int.natCast_zero, Int.toNat_natCast, Int.reduceToNat]) | (refine sCallT_io [1000000000, 67] ?_; simp -dsimp -implicitDefEqProofs only [go_sem, ↓reduceIte, Nat.reduceEqDiff, Nat.reduceLT, Nat.reduceAdd, Nat.reduceMul, Nat.reduceLeDiff, Nat.le_refl, Int.natCast_zero, Int.toNat_natCast, Int.reduceToNat]; refine sCallM_one (c_l01Pick _ _ _ bs [-1, 5] _ _ rfl (by simp) (by simp) (by first | assumption | exact (nx_ok _ _ (by first | assumption | exact (nx_ok _ _ (by assumption)).2.2.2)).2.2.2) hl) ?_; simp -dsimp -implicitDefEqProofs only [go_sem, ↓reduceIte, Nat.reduceEqDiff, Nat.reduceLT, Nat.reduceAdd, Nat.reduceMul, Nat.reduceLeDiff, Nat.le_refl, Int.natCast_zero, Int.toNat_natCast, Int.reduceToNat]) | (refine sCallT_io [1000000000, 76] ?_; simp -dsimp -implicitDefEqProofs only [go_sem, ↓reduceIte, Nat.reduceEqDiff, Nat.reduceLT, Nat.reduceAdd, Nat.reduceMul, Nat.reduceLeDiff, Nat.le_refl, Int.natCast_zero, Int.toNat_natCast, Int.reduceToNat]; refine sCallM_one (c_l01Pick _ _ _ bs [-1, (T.length : Int)] _ _ rfl (by simp) (by simp) (by first | assumption | exact (nx_ok _ _ (by first | assumption | exact (nx_ok _ _ (by assumption)).2.2.2)).2.2.2) hl) ?_; simp -dsimp -implicitDefEqProofs only [go_sem, ↓reduceIte, Nat.reduceEqDiff, Nat.reduceLT, Nat.reduceAdd, Nat.reduceMul, Nat.reduceLeDiff, Nat.le_refl, Int.natCast_zero, Int.toNat_natCast, Int.reduceToNat]) | (refine sCallT_io [1000000000, 85] ?_; simp -dsimp -implicitDefEqProofs only [go_sem, ↓reduceIte, Nat.reduceEqDiff, Nat.reduceLT, Nat.reduceAdd, Nat.reduceMul, Nat.reduceLeDiff, Nat.le_refl, Int.natCast_zero, Int.toNat_natCast, Int.reduceToNat]; refine sCallM_one (c_l01Pick _ _ _ bs [-1, 0, (R.length : Int)] _ _ rfl (by simp) (by simp) (by first | assumption | exact (nx_ok _ _ (by first | assumption | exact (nx_ok _ _ (by assumption)).2.2.2)).2.2.2) hl) ?_; simp -dsimp -implicitDefEqProofs only [go_sem, ↓reduceIte, Nat.reduceEqDiff, Nat.reduceLT, Nat.reduceAdd, Nat.reduceMul, Nat.reduceLeDiff, Nat.le_refl, Int.natCast_zero, Int.toNat_natCast, Int.reduceToNat]) | (refine sCallT_io [1000000000, 94] ?_; simp -dsimp -implicitDefEqProofs only [go_sem, ↓reduceIte, Nat.reduceEqDiff, Nat.reduceLT, Nat.reduceAdd, Nat.reduceMul, Nat.reduceLeDiff, Nat.le_refl, Int.natCast_zero, Int.toNat_natCast, Int.reduceToNat]; refine sCallM_one (c_l01Pick _ _ _ bs [-1, (R.length : Int)] _ _ rfl (by simp) (by simp) (by first | assumption | exact (nx_ok _ _ (by first | assumption | exact (nx_ok _ _ (by assumption)).2.2.2)).2.2.2) hl) ?_; simp -dsimp -implicitDefEqProofs only [go_sem, ↓reduceIte, Nat.reduceEqDiff, Nat.reduceLT, Nat.reduceAdd, Nat.reduceMul, Nat.reduceLeDiff, Nat.le_refl, Int.natCast_zero, Int.toNat_natCast, Int.reduceToNat]))); all_goals (first | omega | (refine ⟨?_, ?_⟩ <;> omega) | (exact rfl) | (simp [*]; done) | trace_state)
    · have hst : stIx (T.getD b.1.toNat ⟨0, 0, 0⟩).state < 4 := by unfold stIx; omega
      have hk : ∀ i, i < 4 → ([eI 0, eI 1, eI 3, eI 0] : List AV)[i]? = some (eI (([0, 1, 3, 0] : List Int).getD i 0)) := fun i hi => by
        match i, hi with
        | 0, _ => rfl
        | 1, _ => rfl
        | 2, _ => rfl
        | 3, _ => rfl
      have hk := hk _ hst
      generalize T.getD b.1.toNat ⟨0, 0, 0⟩ = t at *
      generalize ([0, 1, 3, 0] : List Int).getD (stIx t.state) 0 = k at *
      simp -dsimp -implicitDefEqProofs only [go_sem, ↓reduceIte, Nat.reduceEqDiff, Nat.reduceLT, Nat.reduceAdd, Nat.reduceMul, Nat.reduceLeDiff, Nat.le_refl, Int.natCast_zero, Int.toNat_natCast, Int.reduceToNat, hf0]
      repeat' first
        | (with_reducible refine And.intro ?_ ?_)
        | (refine sCallT_one (c_l01In b.1 0 ((T.length : Int) - 1)) ?_; simp -dsimp -implicitDefEqProofs only [go_sem, ↓reduceIte, Nat.reduceEqDiff, Nat.reduceLT, Nat.reduceAdd, Nat.reduceMul, Nat.reduceLeDiff, Nat.le_refl, Int.natCast_zero, Int.toNat_natCast, Int.reduceToNat, hin])
      all_goals try (first | omega | (refine ⟨?_, ?_⟩ <;> omega) | (exact rfl))
      simp -dsimp -implicitDefEqProofs only [go_sem, ↓reduceIte, Nat.reduceEqDiff, Nat.reduceLT, Nat.reduceAdd, Nat.reduceMul, Nat.reduceLeDiff, Nat.le_refl, Int.natCast_zero, Int.toNat_natCast, Int.reduceToNat, hg]
      refine sCallT_one (c_l30State t.state) ?_
      simp -dsimp -implicitDefEqProofs only [go_sem, ↓reduceIte, Nat.reduceEqDiff, Nat.reduceLT, Nat.reduceAdd, Nat.reduceMul, Nat.reduceLeDiff, Nat.le_refl, Int.natCast_zero, Int.toNat_natCast, Int.reduceToNat, hk]
      repeat' (with_reducible refine And.intro ?_ ?_)
      all_goals try (first | omega | (refine ⟨?_, ?_⟩ <;> omega))
      clear hst hk hg hin hbT b1 hp
      (repeat' (first | (refine Br.intro (fun _ => ?_) (fun _ => ?_) <;> try simp -dsimp -implicitDefEqProofs only [go_sem, ↓reduceIte, Nat.reduceEqDiff, Nat.reduceLT, Nat.reduceAdd, Nat.reduceMul, Nat.reduceLeDiff, Nat.le_refl, Int.natCast_zero, Int.toNat_natCast, Int.reduceToNat, *]) | (with_reducible refine And.intro ?_ ?_) | (refine sCallT_io [1000000000] ?_; simp -dsimp -implicitDefEqProofs only [go_sem, ↓reduceIte, Nat.reduceEqDiff, Nat.reduceLT, Nat.reduceAdd, Nat.reduceMul, Nat.reduceLeDiff, Nat.le_refl, Int.natCast_zero, Int.toNat_natCast, Int.reduceToNat]; refine sCallM_one (c_l01Next _ bs _ _ (by first | assumption | exact (nx_ok _ _ (by first | assumption | exact (nx_ok _ _ (by assumption)).2.2.2)).2.2.2) hl) ?_; simp -dsimp -implicitDefEqProofs only [go_sem, ↓reduceIte, Nat.reduceEqDiff, Nat.reduceLT, Nat.reduceAdd, Nat.reduceMul, Nat.reduceLeDiff, Nat.le_refl, Int.natCast_zero, Int.toNat_natCast, Int.reduceToNat]) | (refine sCallT_io [1000000000, 67] ?_; simp -dsimp -implicitDefEqProofs only [go_sem, ↓reduceIte, Nat.reduceEqDiff, Nat.reduceLT, Nat.reduceAdd, Nat.reduceMul, Nat.reduceLeDiff, Nat.le_refl, Int.natCast_zero, Int.toNat_natCast, Int.reduceToNat]; refine sCallM_one (c_l01Pick _ _ _ bs [-1, 5] _ _ rfl (by simp) (by simp) (by first | assumption | exact (nx_ok _ _ (by first | assumption | exact (nx_ok _ _ (by assumption)).2.2.2)).2.2.2) hl) ?_; simp -dsimp -implicitDefEqProofs only [go_sem, ↓reduceIte, Nat.reduceEqDiff, Nat.reduceLT, Nat.reduceAdd, Nat.reduceMul, Nat.reduceLeDiff, Nat.le_refl, Int.natCast_zero, Int.toNat_natCast, Int.reduceToNat]) | (refine sCallT_io [1000000000, 76] ?_; simp -dsimp -implicitDefEqProofs only [go_sem, ↓reduceIte, Nat.reduceEqDiff, Nat.reduceLT, Nat.reduceAdd, Nat.reduceMul, Nat.reduceLeDiff, Nat.le_refl, Int.natCast_zero, Int.toNat_natCast, Int.reduceToNat]; refine sCallM_one (c_l01Pick _ _ _ bs [-1, (T.length : Int)] _ _ rfl (by simp) (by simp) (by first | assumption | exact (nx_ok _ _ (by first | assumption | exact (nx_ok _ _ (by assumption)).2.2.2)).2.2.2) hl) ?_; simp -dsimp -implicitDefEqProofs only [go_sem, ↓reduceIte, Nat.reduceEqDiff, Nat.reduceLT, Nat.reduceAdd, Nat.reduceMul, Nat.reduceLeDiff, Nat.le_refl, Int.natCast_zero, Int.toNat_natCast, Int.reduceToNat]) | (refine sCallT_io [1000000000, 85] ?_; simp -dsimp -implicitDefEqProofs only [go_sem, ↓reduceIte, Nat.reduceEqDiff, Nat.reduceLT, Nat.reduceAdd, Nat.reduceMul, Nat.reduceLeDiff, Nat.le_refl, Int.natCast_zero, Int.toNat_natCast, Int.reduceToNat]; refine sCallM_one (c_l01Pick _ _ _ bs [-1, 0, (R.length : Int)] _ _ rfl (by simp) (by simp) (by first | assumption | exact (nx_ok _ _ (by first | assumption | exact (nx_ok _ _ (by assumption)).2.2.2)).2.2.2) hl) ?_; simp -dsimp -implicitDefEqProofs only [go_sem, ↓reduceIte, Nat.reduceEqDiff, Nat.reduceLT, Nat.reduceAdd, Nat.reduceMul, Nat.reduceLeDiff, Nat.le_refl, Int.natCast_zero, Int.toNat_natCast, Int.reduceToNat]) | (refine sCallT_io [1000000000, 94] ?_; simp -dsimp -implicitDefEqProofs only [go_sem, ↓reduceIte, Nat.reduceEqDiff, Nat.reduceLT, Nat.reduceAdd, Nat.reduceMul, Nat.reduceLeDiff, Nat.le_refl, Int.natCast_zero, Int.toNat_natCast, Int.reduceToNat]; refine sCallM_one (c_l01Pick _ _ _ bs [-1, (R.length : Int)] _ _ rfl (by simp) (by simp) (by first | assumption | exact (nx_ok _ _ (by first | assumption | exact (nx_ok _ _ (by assumption)).2.2.2)).2.2.2) hl) ?_; simp -dsimp -implicitDefEqProofs only [go_sem, ↓reduceIte, Nat.reduceEqDiff, Nat.reduceLT, Nat.reduceAdd, Nat.reduceMul, Nat.reduceLeDiff, Nat.le_refl, Int.natCast_zero, Int.toNat_natCast, Int.reduceToNat]))); all_goals (first | omega | (refine ⟨?_, ?_⟩ <;> omega) | (exact rfl) | (simp [*]; done) | trace_state)
end Go.Vc
/-
  Contracts: lists of events that are drawn.
-/
set_option linter.unusedVariables false
set_option linter.unusedSimpArgs false
set_option linter.unnecessarySimpa false
namespace Go.Vc
open Go.Proofs
set_option maxRecDepth 100000
attribute [local irreducible] drawEvent
def nowAfter (r : RegM) (e : EvM) : RegM := if (applyEvent r e).2 = 0 then (applyEvent r e).1 else r
theorem applyEvent_len (r : RegM) (e : EvM) (h : (applyEvent r e).2 = 0) : (applyEvent r e).1.tags.length = r.tags.length ∧ (applyEvent r e).1.roles = r.roles ∧ applyEvent r e = (applyEv r e, 0) ∧ isReg r = true ∧ isEv r e = true ∧ canEv r e = true := by
  unfold applyEvent at *
  split at h
  · rename_i h0
    split at h
    · rename_i h1
      rw [if_pos h0, if_pos h1]
      exact ⟨by simp [applyEv], rfl, rfl, (evCode_zero h0).1, (evCode_zero h0).2, h1⟩
    · cases h
  · rename_i h0; exact absurd h h0
def drawEvs (bs : List UInt8) : Nat → RegM → List EvM → Src → List EvM × Src
  | 0, _, out, s => (out, s)
  | k + 1, now, out, s => drawEvs bs k (nowAfter now (drawEvent bs now.tags now.roles s).1) (out ++ [(drawEvent bs now.tags now.roles s).1]) (drawEvent bs now.tags now.roles s).2
def fillE (bs : List UInt8) : Nat → List EvM → Src → List EvM × Src
  | 0, out, s => (out, s)
  | k + 1, out, s => if (out.length : Int) < 60 + (nx bs 2 s).1 then fillE bs k (out ++ [⟨0, 0, 0, 0⟩]) (nx bs 2 s).2 else (out, (nx bs 2 s).2)
theorem drawEvs_ok (bs : List UInt8) : ∀ (k : Nat) (now : RegM) (out : List EvM) (s : Src), SrcOk s → SrcOk (drawEvs bs k now out s).2 ∧ (drawEvs bs k now out s).1.length = out.length + k
  | 0, _, _, _, h => ⟨h, rfl⟩
  | k + 1, now, out, s, h => by
    have := drawEvs_ok bs k (nowAfter now (drawEvent bs now.tags now.roles s).1) (out ++ [(drawEvent bs now.tags now.roles s).1]) _ (drawEvent_ok bs now.tags now.roles h)
    rw [drawEvs]
    refine ⟨this.1, this.2.trans ?_⟩
    rw [List.length_append, List.length_singleton]; omega
theorem fillE_ok (bs : List UInt8) : ∀ (k : Nat) (out : List EvM) (s : Src), SrcOk s → out.length ≤ 61 → SrcOk (fillE bs k out s).2 ∧ (fillE bs k out s).1.length ≤ 61
  | 0, _, _, h, hl => ⟨h, hl⟩
  | k + 1, out, s, h, hl => by
    have h2 := nx_ok bs 2 h
    rw [fillE]
    split
    · rename_i hlt
      have := h2.2.2.1 (by omega)
      exact fillE_ok bs k _ _ h2.2.2.2 (by rw [List.length_append, List.length_singleton]; omega)
    · exact ⟨h2.2.2.2, hl⟩
def drawEvents (bs : List UInt8) (r : RegM) (s : Src) : List EvM × Src :=
  let a := nx bs 14 s
  let b := if 0 < r.tags.length then drawEvs bs a.1.toNat r [] a.2 else ([], a.2)
  let c := nx bs 40 b.2
  if c.1 = 0 ∧ 0 < r.tags.length then fillE bs 62 b.1 c.2 else (b.1, c.2)
theorem drawEvents_ok (bs : List UInt8) (r : RegM) {s : Src} (h : SrcOk s) : SrcOk (drawEvents bs r s).2 ∧ (drawEvents bs r s).1.length ≤ 61 := by
  have h1 := nx_ok bs 14 h
  have h2 := h1.2.2.1 (by omega)
  have h3 := drawEvs_ok bs (nx bs 14 s).1.toNat r [] _ h1.2.2.2
  have h4 : SrcOk (if 0 < r.tags.length then drawEvs bs (nx bs 14 s).1.toNat r [] (nx bs 14 s).2 else ([], (nx bs 14 s).2)).2 ∧ (if 0 < r.tags.length then drawEvs bs (nx bs 14 s).1.toNat r [] (nx bs 14 s).2 else ([], (nx bs 14 s).2)).1.length ≤ 61 := by
    split
    · refine ⟨h3.1, ?_⟩
      rw [h3.2]; simp; omega
    · exact ⟨h1.2.2.2, by simp⟩
  dsimp only [drawEvents]
  generalize (if 0 < r.tags.length then drawEvs bs (nx bs 14 s).1.toNat r [] (nx bs 14 s).2 else ([], (nx bs 14 s).2)) = b at *
  have h5 := nx_ok bs 40 h4.1
  split
  · exact fillE_ok bs 62 _ _ h5.2.2.2 h4.2
  · exact ⟨h5.2.2.2, h4.2⟩
structure DSt where
  own : Bool
  k : Nat
  now : RegM
  out : List EvM
  s : Src
set_option maxHeartbeats 8000000 in
theorem c_l30DrawEvents (v v2 v3 : Nat) (bs : List UInt8) (r : RegM) (s : Src) (h : SrcOk s) (hl : bs.length ≤ 4096) (hT : r.tags.length ≤ 1048576) (hR : r.roles.length ≤ 1048576) :
    FnM Tryz.prog 77 [srcB v bs s, .row v2 ⟨3, true⟩ true (r.tags.map eTag), .row v3 ⟨1, false⟩ true (r.roles.map eI)] [.ptr 1000000000 v 0 0, .agg [.ref 1000000001 v2 0 r.tags.length, .ref 1000000002 v3 0 r.roles.length]]
      (fun x io => x = eEvs (drawEvents bs r s).1 ∧ io = [srcB v bs (drawEvents bs r s).2, .row v2 ⟨3, true⟩ true (r.tags.map eTag), .row v3 ⟨1, false⟩ true (r.roles.map eI)]) := by
  refine FnM.of_vcN 61 [.tmp 4] Tryz.func77 rfl rfl rfl rfl rfl (of_decide_eq_true rfl) ?_
  have h1 := nx_ok bs 14 h
  have h2 := h1.2.2.1 (by omega)
  have hd : drawEvents bs r s = (let c := nx bs 40 (if 0 < r.tags.length then drawEvs bs (nx bs 14 s).1.toNat r [] (nx bs 14 s).2 else ([], (nx bs 14 s).2)).2; if c.1 = 0 ∧ 0 < r.tags.length then fillE bs 62 (if 0 < r.tags.length then drawEvs bs (nx bs 14 s).1.toNat r [] (nx bs 14 s).2 else ([], (nx bs 14 s).2)).1 c.2 else ((if 0 < r.tags.length then drawEvs bs (nx bs 14 s).1.toNat r [] (nx bs 14 s).2 else ([], (nx bs 14 s).2)).1, c.2)) := rfl
  have hB : SrcOk (if 0 < r.tags.length then drawEvs bs (nx bs 14 s).1.toNat r [] (nx bs 14 s).2 else ([], (nx bs 14 s).2)).2 ∧ (if 0 < r.tags.length then drawEvs bs (nx bs 14 s).1.toNat r [] (nx bs 14 s).2 else ([], (nx bs 14 s).2)).1.length ≤ 13 := by
    have h3 := drawEvs_ok bs (nx bs 14 s).1.toNat r [] _ h1.2.2.2
    split
    · refine ⟨h3.1, ?_⟩
      rw [h3.2]; simp; omega
    · exact ⟨h1.2.2.2, by simp⟩
  obtain ⟨b, hb⟩ : ∃ b, (if 0 < r.tags.length then drawEvs bs (nx bs 14 s).1.toNat r [] (nx bs 14 s).2 else ([], (nx bs 14 s).2)) = b := ⟨_, rfl⟩
  rw [hb] at hd hB
  rw [hd]
  clear hd
  dsimp only
  simp -dsimp -implicitDefEqProofs only [go_sem, ↓reduceIte, Nat.reduceEqDiff, Nat.reduceLT, Nat.reduceAdd, Nat.reduceMul, Nat.reduceLeDiff, Nat.le_refl, Int.natCast_zero, Int.toNat_natCast, Int.reduceToNat]
  repeat' (with_reducible refine And.intro ?_ ?_)
  (refine sCallT_io [1000000000] ?_; simp -dsimp -implicitDefEqProofs only [go_sem, ↓reduceIte, Nat.reduceEqDiff, Nat.reduceLT, Nat.reduceAdd, Nat.reduceMul, Nat.reduceLeDiff, Nat.le_refl, Int.natCast_zero, Int.toNat_natCast, Int.reduceToNat]; refine sCallM_one (c_l01Next _ bs 14 _ h hl) ?_; simp -dsimp -implicitDefEqProofs only [go_sem, ↓reduceIte, Nat.reduceEqDiff, Nat.reduceLT, Nat.reduceAdd, Nat.reduceMul, Nat.reduceLeDiff, Nat.le_refl, Int.natCast_zero, Int.toNat_natCast, Int.reduceToNat])
  generalize nx bs 14 s = a at *
  refine Later.lpR [0, 3, 6] [8, 9, 20, 27, 30, 31, 35] [6, 11, 700, 701, 36000, 36001, 1000000000]
    (fun x : DSt => SrcOk x.s ∧ x.now.tags.length = r.tags.length ∧ x.now.roles = r.roles ∧ x.k + x.out.length ≤ 13 ∧ (if 0 < r.tags.length then drawEvs bs x.k x.now x.out x.s else (x.out, x.s)) = b ∧ (x.own = false → x.now = r) ∧ (x.own = true → 0 < r.tags.length))
    (fun x => [(7, eI x.k), (5, .ref 11 0 0 x.out.length)])
    (fun x => (if x.own then [(6, .box 0 [.ref 700 0 0 x.now.tags.length, .ref 701 0 0 x.now.roles.length]), (700, .row 0 ⟨3, true⟩ true (x.now.tags.map eTag)), (701, .row 0 ⟨1, false⟩ true (x.now.roles.map eI))] else [(6, .box 0 [.ref 1000000001 v2 0 r.tags.length, .ref 1000000002 v3 0 r.roles.length])]) ++ [(11, .row 0 ⟨4, true⟩ true (x.out.map eEv)), (1000000000, srcB v bs x.s)])
    (fun x => x.k) ⟨false, a.1.toNat, r, [], a.2⟩ ⟨h1.2.2.2, rfl, rfl, by simp; omega, hb, fun _ => rfl, fun h => by cases h⟩ (.here ?_) rfl (fun x hI => ?_)
  · dsimp only
    rw [show ((a.1.toNat : Nat) : Int) = a.1 by omega]
    simp -dsimp -implicitDefEqProofs only [go_sem, ↓reduceIte, Nat.reduceEqDiff, Nat.reduceLT, Nat.reduceAdd, Nat.reduceMul, Nat.reduceLeDiff, Nat.le_refl, Int.natCast_zero, Int.toNat_natCast, Int.reduceToNat]
  · clear hb h1 h2 h
    obtain ⟨own, k, now, out, s⟩ := x
    obtain ⟨i1, i2, i3, i4, i5, i6, i7⟩ := hI
    dsimp only at i1 i2 i3 i4 i5 i6 i7 ⊢
    cases k with
    | zero =>
      have hbe : (out, s) = b := by
        rw [← i5]; split <;> rfl
      subst hbe
      clear i5 hB
      have hk0 : decide ((0 : Int) > 0) = false := rfl
      cases own with
      | false =>
        simp only [Bool.false_eq_true, if_false]
        simp -dsimp -implicitDefEqProofs only [pick_nil, pick_cons, look_nil, look_cons, dropB_nil, dropB_cons, inD_nil, inD_cons, inE_nil, inE_cons, or_t_l, or_f_l, Nat.reduceBEq, Nat.reduceDiv, Nat.reduceAdd, beq_self_eq_true, Bool.false_eq_true, Bool.or_false, ↓reduceIte, Nat.reduceEqDiff, List.cons_append, List.nil_append]
        simp -dsimp -implicitDefEqProofs only [go_sem, ↓reduceIte, Nat.reduceEqDiff, Nat.reduceLT, Nat.reduceAdd, Nat.reduceMul, Nat.reduceLeDiff, Nat.le_refl, Int.natCast_zero, Int.toNat_natCast, Int.reduceToNat, hk0]
        try dsimp only
        (refine sCallT_io [1000000000] ?_; simp -dsimp -implicitDefEqProofs only [go_sem, ↓reduceIte, Nat.reduceEqDiff, Nat.reduceLT, Nat.reduceAdd, Nat.reduceMul, Nat.reduceLeDiff, Nat.le_refl, Int.natCast_zero, Int.toNat_natCast, Int.reduceToNat]; refine sCallM_one (c_l01Next _ bs 40 _ i1 hl) ?_; simp -dsimp -implicitDefEqProofs only [go_sem, ↓reduceIte, Nat.reduceEqDiff, Nat.reduceLT, Nat.reduceAdd, Nat.reduceMul, Nat.reduceLeDiff, Nat.le_refl, Int.natCast_zero, Int.toNat_natCast, Int.reduceToNat])
        have hco := (nx_ok bs 40 i1).2.2.2
        generalize nx bs 40 s = c at *
        rcases hc : (c.1 == 0) with _ | _
        · have hc1 : ¬ c.1 = 0 := by simpa using hc
          rw [if_neg (fun h => hc1 h.1)]
          simp -dsimp -implicitDefEqProofs only [go_sem, ↓reduceIte, Nat.reduceEqDiff, Nat.reduceLT, Nat.reduceAdd, Nat.reduceMul, Nat.reduceLeDiff, Nat.le_refl, Int.natCast_zero, Int.toNat_natCast, Int.reduceToNat, hc]
          all_goals (first | omega | (refine ⟨?_, ?_⟩ <;> omega) | (exact rfl) | (simp; done) | (simp [*]; done) | trace_state)
        rcases hT0 : decide ((r.tags.length : Int) > 0) with _ | _
        · have hT1 := of_decide_eq_false hT0
          rw [if_neg (fun h => hT1 (by omega))]
          simp -dsimp -implicitDefEqProofs only [go_sem, ↓reduceIte, Nat.reduceEqDiff, Nat.reduceLT, Nat.reduceAdd, Nat.reduceMul, Nat.reduceLeDiff, Nat.le_refl, Int.natCast_zero, Int.toNat_natCast, Int.reduceToNat, hc, hT0]
          repeat' (with_reducible refine And.intro ?_ ?_)
          all_goals (first | omega | (refine ⟨?_, ?_⟩ <;> omega) | (exact rfl) | (simp; done) | (simp [*]; done) | trace_state)
        have hT1 := of_decide_eq_true hT0
        rw [if_pos ⟨by simpa using hc, by omega⟩]
        simp -dsimp -implicitDefEqProofs only [go_sem, ↓reduceIte, Nat.reduceEqDiff, Nat.reduceLT, Nat.reduceAdd, Nat.reduceMul, Nat.reduceLeDiff, Nat.le_refl, Int.natCast_zero, Int.toNat_natCast, Int.reduceToNat, hc, hT0]
        repeat' (with_reducible refine And.intro ?_ ?_)
        all_goals try (first | omega | (simp; done))
        have hfl := fillE_ok bs 62 out c.2 hco (by omega)
        obtain ⟨z, hz⟩ : ∃ z, fillE bs 62 out c.2 = z := ⟨_, rfl⟩
        rw [hz] at hfl ⊢
        refine Later.lp [0] [51, 53, 58, 59] [11, 1000000000] (fun x : Nat × List EvM × Src => SrcOk x.2.2 ∧ x.2.1.length ≤ 61 ∧ 62 ≤ x.1 + x.2.1.length ∧ fillE bs x.1 x.2.1 x.2.2 = z)
          (fun x => [(5, .ref 11 0 0 x.2.1.length)]) (fun x => [(11, .row 0 ⟨4, true⟩ true (x.2.1.map eEv)), (1000000000, srcB v bs x.2.2)]) (fun x => x.1) (62, out, c.2) ⟨hco, by dsimp only; omega, by dsimp only; omega, hz⟩ ?_ rfl (fun x hI => ?_)
        · simp -dsimp -implicitDefEqProofs only [go_sem, ↓reduceIte, Nat.reduceEqDiff, Nat.reduceLT, Nat.reduceAdd, Nat.reduceMul, Nat.reduceLeDiff, Nat.le_refl, Int.natCast_zero, Int.toNat_natCast, Int.reduceToNat]
        · obtain ⟨k, out, s⟩ := x
          obtain ⟨q1, q2, q3, q4⟩ := hI
          dsimp only at q1 q2 q3 q4 ⊢
          clear hz
          cases k with
          | zero => exact absurd q3 (by omega)
          | succ k =>
            rw [fillE] at q4
            have hx := nx_ok bs 2 q1
            have hx2 := hx.2.2.1 (by omega)
            have hcn := fun v => c_l01Next v bs 2 s q1 hl
            generalize nx bs 2 s = y at *
            simp -dsimp -implicitDefEqProofs only [pick_nil, pick_cons, look_nil, look_cons, dropB_nil, dropB_cons, inD_nil, inD_cons, inE_nil, inE_cons, or_t_l, or_f_l, Nat.reduceBEq, Nat.reduceDiv, Nat.reduceAdd, beq_self_eq_true, Bool.false_eq_true, Bool.or_false, ↓reduceIte, Nat.reduceEqDiff, List.cons_append, List.nil_append]
            simp -dsimp -implicitDefEqProofs only [go_sem, ↓reduceIte, Nat.reduceEqDiff, Nat.reduceLT, Nat.reduceAdd, Nat.reduceMul, Nat.reduceLeDiff, Nat.le_refl, Int.natCast_zero, Int.toNat_natCast, Int.reduceToNat]
            repeat' (with_reducible refine And.intro ?_ ?_)
            all_goals try (first | omega | (simp; done))
            (refine sCallT_io [1000000000] ?_; simp -dsimp -implicitDefEqProofs only [go_sem, ↓reduceIte, Nat.reduceEqDiff, Nat.reduceLT, Nat.reduceAdd, Nat.reduceMul, Nat.reduceLeDiff, Nat.le_refl, Int.natCast_zero, Int.toNat_natCast, Int.reduceToNat]; refine sCallM_one (hcn _) ?_; simp -dsimp -implicitDefEqProofs only [go_sem, ↓reduceIte, Nat.reduceEqDiff, Nat.reduceLT, Nat.reduceAdd, Nat.reduceMul, Nat.reduceLeDiff, Nat.le_refl, Int.natCast_zero, Int.toNat_natCast, Int.reduceToNat])
            repeat' (with_reducible refine And.intro ?_ ?_)
            all_goals try (first | omega | (refine ⟨?_, ?_⟩ <;> omega))
            rcases hlt : decide ((out.length : Int) < 60 + y.1) with _ | _
            · have hlt1 := of_decide_eq_false hlt
              rw [if_neg hlt1] at q4
              subst q4
              simp -dsimp -implicitDefEqProofs only [go_sem, ↓reduceIte, Nat.reduceEqDiff, Nat.reduceLT, Nat.reduceAdd, Nat.reduceMul, Nat.reduceLeDiff, Nat.le_refl, Int.natCast_zero, Int.toNat_natCast, Int.reduceToNat, hlt]
              all_goals (first | omega | (refine ⟨?_, ?_⟩ <;> omega) | (exact rfl) | (simp; done) | (simp [*]; done) | trace_state)
            · have hlt1 := of_decide_eq_true hlt
              rw [if_pos hlt1] at q4
              simp -dsimp -implicitDefEqProofs only [go_sem, ↓reduceIte, Nat.reduceEqDiff, Nat.reduceLT, Nat.reduceAdd, Nat.reduceMul, Nat.reduceLeDiff, Nat.le_refl, Int.natCast_zero, Int.toNat_natCast, Int.reduceToNat, hlt]
              repeat' (with_reducible refine And.intro ?_ ?_)
              all_goals try (first | omega | (refine ⟨?_, ?_⟩ <;> omega))
              refine ⟨(k, out ++ [⟨0, 0, 0, 0⟩], y.2), ⟨hx.2.2.2, by simp; omega, by simp; omega, q4⟩, by dsimp only; omega, ?_⟩
              simp -dsimp -implicitDefEqProofs only [go_sem, ↓reduceIte, Nat.reduceEqDiff, Nat.reduceLT, Nat.reduceAdd, Nat.reduceMul, Nat.reduceLeDiff, Nat.le_refl, Int.natCast_zero, Int.toNat_natCast, Int.reduceToNat]
              all_goals first | (simp; done) | trace_state
      | true =>
        simp only [if_true]
        simp -dsimp -implicitDefEqProofs only [pick_nil, pick_cons, look_nil, look_cons, dropB_nil, dropB_cons, inD_nil, inD_cons, inE_nil, inE_cons, or_t_l, or_f_l, Nat.reduceBEq, Nat.reduceDiv, Nat.reduceAdd, beq_self_eq_true, Bool.false_eq_true, Bool.or_false, ↓reduceIte, Nat.reduceEqDiff, List.cons_append, List.nil_append]
        simp -dsimp -implicitDefEqProofs only [go_sem, ↓reduceIte, Nat.reduceEqDiff, Nat.reduceLT, Nat.reduceAdd, Nat.reduceMul, Nat.reduceLeDiff, Nat.le_refl, Int.natCast_zero, Int.toNat_natCast, Int.reduceToNat, hk0]
        try dsimp only
        (refine sCallT_io [1000000000] ?_; simp -dsimp -implicitDefEqProofs only [go_sem, ↓reduceIte, Nat.reduceEqDiff, Nat.reduceLT, Nat.reduceAdd, Nat.reduceMul, Nat.reduceLeDiff, Nat.le_refl, Int.natCast_zero, Int.toNat_natCast, Int.reduceToNat]; refine sCallM_one (c_l01Next _ bs 40 _ i1 hl) ?_; simp -dsimp -implicitDefEqProofs only [go_sem, ↓reduceIte, Nat.reduceEqDiff, Nat.reduceLT, Nat.reduceAdd, Nat.reduceMul, Nat.reduceLeDiff, Nat.le_refl, Int.natCast_zero, Int.toNat_natCast, Int.reduceToNat])
        have hco := (nx_ok bs 40 i1).2.2.2
        generalize nx bs 40 s = c at *
        rcases hc : (c.1 == 0) with _ | _
        · have hc1 : ¬ c.1 = 0 := by simpa using hc
          rw [if_neg (fun h => hc1 h.1)]
          simp -dsimp -implicitDefEqProofs only [go_sem, ↓reduceIte, Nat.reduceEqDiff, Nat.reduceLT, Nat.reduceAdd, Nat.reduceMul, Nat.reduceLeDiff, Nat.le_refl, Int.natCast_zero, Int.toNat_natCast, Int.reduceToNat, hc]
          all_goals (first | omega | (refine ⟨?_, ?_⟩ <;> omega) | (exact rfl) | (simp; done) | (simp [*]; done) | trace_state)
        rcases hT0 : decide ((r.tags.length : Int) > 0) with _ | _
        · have hT1 := of_decide_eq_false hT0
          rw [if_neg (fun h => hT1 (by omega))]
          simp -dsimp -implicitDefEqProofs only [go_sem, ↓reduceIte, Nat.reduceEqDiff, Nat.reduceLT, Nat.reduceAdd, Nat.reduceMul, Nat.reduceLeDiff, Nat.le_refl, Int.natCast_zero, Int.toNat_natCast, Int.reduceToNat, hc, hT0]
          repeat' (with_reducible refine And.intro ?_ ?_)
          all_goals (first | omega | (refine ⟨?_, ?_⟩ <;> omega) | (exact rfl) | (simp; done) | (simp [*]; done) | trace_state)
        have hT1 := of_decide_eq_true hT0
        rw [if_pos ⟨by simpa using hc, by omega⟩]
        simp -dsimp -implicitDefEqProofs only [go_sem, ↓reduceIte, Nat.reduceEqDiff, Nat.reduceLT, Nat.reduceAdd, Nat.reduceMul, Nat.reduceLeDiff, Nat.le_refl, Int.natCast_zero, Int.toNat_natCast, Int.reduceToNat, hc, hT0]
        repeat' (with_reducible refine And.intro ?_ ?_)
        all_goals try (first | omega | (simp; done))
        have hfl := fillE_ok bs 62 out c.2 hco (by omega)
        obtain ⟨z, hz⟩ : ∃ z, fillE bs 62 out c.2 = z := ⟨_, rfl⟩
        rw [hz] at hfl ⊢
        refine Later.lp [0] [51, 53, 58, 59] [11, 1000000000] (fun x : Nat × List EvM × Src => SrcOk x.2.2 ∧ x.2.1.length ≤ 61 ∧ 62 ≤ x.1 + x.2.1.length ∧ fillE bs x.1 x.2.1 x.2.2 = z)
          (fun x => [(5, .ref 11 0 0 x.2.1.length)]) (fun x => [(11, .row 0 ⟨4, true⟩ true (x.2.1.map eEv)), (1000000000, srcB v bs x.2.2)]) (fun x => x.1) (62, out, c.2) ⟨hco, by dsimp only; omega, by dsimp only; omega, hz⟩ ?_ rfl (fun x hI => ?_)
        · simp -dsimp -implicitDefEqProofs only [go_sem, ↓reduceIte, Nat.reduceEqDiff, Nat.reduceLT, Nat.reduceAdd, Nat.reduceMul, Nat.reduceLeDiff, Nat.le_refl, Int.natCast_zero, Int.toNat_natCast, Int.reduceToNat]
        · obtain ⟨k, out, s⟩ := x
          obtain ⟨q1, q2, q3, q4⟩ := hI
          dsimp only at q1 q2 q3 q4 ⊢
          clear hz
          cases k with
          | zero => exact absurd q3 (by omega)
          | succ k =>
            rw [fillE] at q4
            have hx := nx_ok bs 2 q1
            have hx2 := hx.2.2.1 (by omega)
            have hcn := fun v => c_l01Next v bs 2 s q1 hl
            generalize nx bs 2 s = y at *
            simp -dsimp -implicitDefEqProofs only [pick_nil, pick_cons, look_nil, look_cons, dropB_nil, dropB_cons, inD_nil, inD_cons, inE_nil, inE_cons, or_t_l, or_f_l, Nat.reduceBEq, Nat.reduceDiv, Nat.reduceAdd, beq_self_eq_true, Bool.false_eq_true, Bool.or_false, ↓reduceIte, Nat.reduceEqDiff, List.cons_append, List.nil_append]
            simp -dsimp -implicitDefEqProofs only [go_sem, ↓reduceIte, Nat.reduceEqDiff, Nat.reduceLT, Nat.reduceAdd, Nat.reduceMul, Nat.reduceLeDiff, Nat.le_refl, Int.natCast_zero, Int.toNat_natCast, Int.reduceToNat]
            repeat' (with_reducible refine And.intro ?_ ?_)
            all_goals try (first | omega | (simp; done))
            (refine sCallT_io [1000000000] ?_; simp -dsimp -implicitDefEqProofs only [go_sem, ↓reduceIte, Nat.reduceEqDiff, Nat.reduceLT, Nat.reduceAdd, Nat.reduceMul, Nat.reduceLeDiff, Nat.le_refl, Int.natCast_zero, Int.toNat_natCast, Int.reduceToNat]; refine sCallM_one (hcn _) ?_; simp -dsimp -implicitDefEqProofs only [go_sem, ↓reduceIte, Nat.reduceEqDiff, Nat.reduceLT, Nat.reduceAdd, Nat.reduceMul, Nat.reduceLeDiff, Nat.le_refl, Int.natCast_zero, Int.toNat_natCast, Int.reduceToNat])
            repeat' (with_reducible refine And.intro ?_ ?_)
            all_goals try (first | omega | (refine ⟨?_, ?_⟩ <;> omega))
            rcases hlt : decide ((out.length : Int) < 60 + y.1) with _ | _
            · have hlt1 := of_decide_eq_false hlt
              rw [if_neg hlt1] at q4
              subst q4
              simp -dsimp -implicitDefEqProofs only [go_sem, ↓reduceIte, Nat.reduceEqDiff, Nat.reduceLT, Nat.reduceAdd, Nat.reduceMul, Nat.reduceLeDiff, Nat.le_refl, Int.natCast_zero, Int.toNat_natCast, Int.reduceToNat, hlt]
              all_goals (first | omega | (refine ⟨?_, ?_⟩ <;> omega) | (exact rfl) | (simp; done) | (simp [*]; done) | trace_state)
            · have hlt1 := of_decide_eq_true hlt
              rw [if_pos hlt1] at q4
              simp -dsimp -implicitDefEqProofs only [go_sem, ↓reduceIte, Nat.reduceEqDiff, Nat.reduceLT, Nat.reduceAdd, Nat.reduceMul, Nat.reduceLeDiff, Nat.le_refl, Int.natCast_zero, Int.toNat_natCast, Int.reduceToNat, hlt]
              repeat' (with_reducible refine And.intro ?_ ?_)
              all_goals try (first | omega | (refine ⟨?_, ?_⟩ <;> omega))
              refine ⟨(k, out ++ [⟨0, 0, 0, 0⟩], y.2), ⟨hx.2.2.2, by simp; omega, by simp; omega, q4⟩, by dsimp only; omega, ?_⟩
              simp -dsimp -implicitDefEqProofs only [go_sem, ↓reduceIte, Nat.reduceEqDiff, Nat.reduceLT, Nat.reduceAdd, Nat.reduceMul, Nat.reduceLeDiff, Nat.le_refl, Int.natCast_zero, Int.toNat_natCast, Int.reduceToNat]
              all_goals first | (simp; done) | trace_state
    | succ k =>
      have hk0 : decide (((k + 1 : Nat) : Int) > 0) = true := decide_eq_true (by omega)
      rcases hT0 : decide ((r.tags.length : Int) > 0) with _ | _
      · have hT1 := of_decide_eq_false hT0
        have hbe : (out, s) = b := by
          rw [← i5, if_neg (by omega)]
        subst hbe
        clear i5 hB
        cases own with
        | false =>
          simp only [Bool.false_eq_true, if_false]
          simp -dsimp -implicitDefEqProofs only [pick_nil, pick_cons, look_nil, look_cons, dropB_nil, dropB_cons, inD_nil, inD_cons, inE_nil, inE_cons, or_t_l, or_f_l, Nat.reduceBEq, Nat.reduceDiv, Nat.reduceAdd, beq_self_eq_true, Bool.false_eq_true, Bool.or_false, ↓reduceIte, Nat.reduceEqDiff, List.cons_append, List.nil_append]
          simp -dsimp -implicitDefEqProofs only [go_sem, ↓reduceIte, Nat.reduceEqDiff, Nat.reduceLT, Nat.reduceAdd, Nat.reduceMul, Nat.reduceLeDiff, Nat.le_refl, Int.natCast_zero, Int.toNat_natCast, Int.reduceToNat, hk0, hT0]
          clear hT0 hT1
          try dsimp only
          (refine sCallT_io [1000000000] ?_; simp -dsimp -implicitDefEqProofs only [go_sem, ↓reduceIte, Nat.reduceEqDiff, Nat.reduceLT, Nat.reduceAdd, Nat.reduceMul, Nat.reduceLeDiff, Nat.le_refl, Int.natCast_zero, Int.toNat_natCast, Int.reduceToNat]; refine sCallM_one (c_l01Next _ bs 40 _ i1 hl) ?_; simp -dsimp -implicitDefEqProofs only [go_sem, ↓reduceIte, Nat.reduceEqDiff, Nat.reduceLT, Nat.reduceAdd, Nat.reduceMul, Nat.reduceLeDiff, Nat.le_refl, Int.natCast_zero, Int.toNat_natCast, Int.reduceToNat])
          have hco := (nx_ok bs 40 i1).2.2.2
          generalize nx bs 40 s = c at *
          rcases hc : (c.1 == 0) with _ | _
          · have hc1 : ¬ c.1 = 0 := by simpa using hc
            rw [if_neg (fun h => hc1 h.1)]
            simp -dsimp -implicitDefEqProofs only [go_sem, ↓reduceIte, Nat.reduceEqDiff, Nat.reduceLT, Nat.reduceAdd, Nat.reduceMul, Nat.reduceLeDiff, Nat.le_refl, Int.natCast_zero, Int.toNat_natCast, Int.reduceToNat, hc]
            all_goals (first | omega | (refine ⟨?_, ?_⟩ <;> omega) | (exact rfl) | (simp; done) | (simp [*]; done) | trace_state)
          rcases hT0 : decide ((r.tags.length : Int) > 0) with _ | _
          · have hT1 := of_decide_eq_false hT0
            rw [if_neg (fun h => hT1 (by omega))]
            simp -dsimp -implicitDefEqProofs only [go_sem, ↓reduceIte, Nat.reduceEqDiff, Nat.reduceLT, Nat.reduceAdd, Nat.reduceMul, Nat.reduceLeDiff, Nat.le_refl, Int.natCast_zero, Int.toNat_natCast, Int.reduceToNat, hc, hT0]
            repeat' (with_reducible refine And.intro ?_ ?_)
            all_goals (first | omega | (refine ⟨?_, ?_⟩ <;> omega) | (exact rfl) | (simp; done) | (simp [*]; done) | trace_state)
          have hT1 := of_decide_eq_true hT0
          rw [if_pos ⟨by simpa using hc, by omega⟩]
          simp -dsimp -implicitDefEqProofs only [go_sem, ↓reduceIte, Nat.reduceEqDiff, Nat.reduceLT, Nat.reduceAdd, Nat.reduceMul, Nat.reduceLeDiff, Nat.le_refl, Int.natCast_zero, Int.toNat_natCast, Int.reduceToNat, hc, hT0]
          repeat' (with_reducible refine And.intro ?_ ?_)
          all_goals try (first | omega | (simp; done))
          have hfl := fillE_ok bs 62 out c.2 hco (by omega)
          obtain ⟨z, hz⟩ : ∃ z, fillE bs 62 out c.2 = z := ⟨_, rfl⟩
          rw [hz] at hfl ⊢
          refine Later.lp [0] [51, 53, 58, 59] [11, 1000000000] (fun x : Nat × List EvM × Src => SrcOk x.2.2 ∧ x.2.1.length ≤ 61 ∧ 62 ≤ x.1 + x.2.1.length ∧ fillE bs x.1 x.2.1 x.2.2 = z)
            (fun x => [(5, .ref 11 0 0 x.2.1.length)]) (fun x => [(11, .row 0 ⟨4, true⟩ true (x.2.1.map eEv)), (1000000000, srcB v bs x.2.2)]) (fun x => x.1) (62, out, c.2) ⟨hco, by dsimp only; omega, by dsimp only; omega, hz⟩ ?_ rfl (fun x hI => ?_)
          · simp -dsimp -implicitDefEqProofs only [go_sem, ↓reduceIte, Nat.reduceEqDiff, Nat.reduceLT, Nat.reduceAdd, Nat.reduceMul, Nat.reduceLeDiff, Nat.le_refl, Int.natCast_zero, Int.toNat_natCast, Int.reduceToNat]
          · obtain ⟨k, out, s⟩ := x
            obtain ⟨q1, q2, q3, q4⟩ := hI
            dsimp only at q1 q2 q3 q4 ⊢
            clear hz
            cases k with
            | zero => exact absurd q3 (by omega)
            | succ k =>
              rw [fillE] at q4
              have hx := nx_ok bs 2 q1
              have hx2 := hx.2.2.1 (by omega)
              have hcn := fun v => c_l01Next v bs 2 s q1 hl
              generalize nx bs 2 s = y at *
              simp -dsimp -implicitDefEqProofs only [pick_nil, pick_cons, look_nil, look_cons, dropB_nil, dropB_cons, inD_nil, inD_cons, inE_nil, inE_cons, or_t_l, or_f_l, Nat.reduceBEq, Nat.reduceDiv, Nat.reduceAdd, beq_self_eq_true, Bool.false_eq_true, Bool.or_false, ↓reduceIte, Nat.reduceEqDiff, List.cons_append, List.nil_append]
              simp -dsimp -implicitDefEqProofs only [go_sem, ↓reduceIte, Nat.reduceEqDiff, Nat.reduceLT, Nat.reduceAdd, Nat.reduceMul, Nat.reduceLeDiff, Nat.le_refl, Int.natCast_zero, Int.toNat_natCast, Int.reduceToNat]
              repeat' (with_reducible refine And.intro ?_ ?_)
              all_goals try (first | omega | (simp; done))
              (refine sCallT_io [1000000000] ?_; simp -dsimp -implicitDefEqProofs only [go_sem, ↓reduceIte, Nat.reduceEqDiff, Nat.reduceLT, Nat.reduceAdd, Nat.reduceMul, Nat.reduceLeDiff, Nat.le_refl, Int.natCast_zero, Int.toNat_natCast, Int.reduceToNat]; refine sCallM_one (hcn _) ?_; simp -dsimp -implicitDefEqProofs only [go_sem, ↓reduceIte, Nat.reduceEqDiff, Nat.reduceLT, Nat.reduceAdd, Nat.reduceMul, Nat.reduceLeDiff, Nat.le_refl, Int.natCast_zero, Int.toNat_natCast, Int.reduceToNat])
              repeat' (with_reducible refine And.intro ?_ ?_)
              all_goals try (first | omega | (refine ⟨?_, ?_⟩ <;> omega))
              rcases hlt : decide ((out.length : Int) < 60 + y.1) with _ | _
              · have hlt1 := of_decide_eq_false hlt
                rw [if_neg hlt1] at q4
                subst q4
                simp -dsimp -implicitDefEqProofs only [go_sem, ↓reduceIte, Nat.reduceEqDiff, Nat.reduceLT, Nat.reduceAdd, Nat.reduceMul, Nat.reduceLeDiff, Nat.le_refl, Int.natCast_zero, Int.toNat_natCast, Int.reduceToNat, hlt]
                all_goals (first | omega | (refine ⟨?_, ?_⟩ <;> omega) | (exact rfl) | (simp; done) | (simp [*]; done) | trace_state)
              · have hlt1 := of_decide_eq_true hlt
                rw [if_pos hlt1] at q4
                simp -dsimp -implicitDefEqProofs only [go_sem, ↓reduceIte, Nat.reduceEqDiff, Nat.reduceLT, Nat.reduceAdd, Nat.reduceMul, Nat.reduceLeDiff, Nat.le_refl, Int.natCast_zero, Int.toNat_natCast, Int.reduceToNat, hlt]
                repeat' (with_reducible refine And.intro ?_ ?_)
                all_goals try (first | omega | (refine ⟨?_, ?_⟩ <;> omega))
                refine ⟨(k, out ++ [⟨0, 0, 0, 0⟩], y.2), ⟨hx.2.2.2, by simp; omega, by simp; omega, q4⟩, by dsimp only; omega, ?_⟩
                simp -dsimp -implicitDefEqProofs only [go_sem, ↓reduceIte, Nat.reduceEqDiff, Nat.reduceLT, Nat.reduceAdd, Nat.reduceMul, Nat.reduceLeDiff, Nat.le_refl, Int.natCast_zero, Int.toNat_natCast, Int.reduceToNat]
                all_goals first | (simp; done) | trace_state
        | true => exact absurd (i7 rfl) (by omega)
      · have hT1 := of_decide_eq_true hT0
        rw [if_pos (by omega), drawEvs] at i5
        have hde := fun v v2 v3 d2 d3 => c_l30DrawEvent v v2 v3 d2 d3 bs now.tags now.roles s i1 hl (by omega) (by rw [i3]; exact hR)
        have hdo := drawEvent_ok bs now.tags now.roles i1
        have hrl : now.roles.length ≤ 1048576 := by rw [i3]; exact hR
        generalize drawEvent bs now.tags now.roles s = p at *
        cases own with
        | false =>
          have e := i6 rfl
          subst e
          simp only [Bool.false_eq_true, if_false]
          simp -dsimp -implicitDefEqProofs only [pick_nil, pick_cons, look_nil, look_cons, dropB_nil, dropB_cons, inD_nil, inD_cons, inE_nil, inE_cons, or_t_l, or_f_l, Nat.reduceBEq, Nat.reduceDiv, Nat.reduceAdd, beq_self_eq_true, Bool.false_eq_true, Bool.or_false, ↓reduceIte, Nat.reduceEqDiff, List.cons_append, List.nil_append]
          simp -dsimp -implicitDefEqProofs only [go_sem, ↓reduceIte, Nat.reduceEqDiff, Nat.reduceLT, Nat.reduceAdd, Nat.reduceMul, Nat.reduceLeDiff, Nat.le_refl, Int.natCast_zero, Int.toNat_natCast, Int.reduceToNat, hk0, hT0]
          refine sCallT_io [1000000000, 1000000001, 1000000002] ?_
          simp -dsimp -implicitDefEqProofs only [go_sem, ↓reduceIte, Nat.reduceEqDiff, Nat.reduceLT, Nat.reduceAdd, Nat.reduceMul, Nat.reduceLeDiff, Nat.le_refl, Int.natCast_zero, Int.toNat_natCast, Int.reduceToNat]
          refine sCallM_one (hde _ _ _ _ _) ?_
          clear hde
          simp -dsimp -implicitDefEqProofs only [go_sem, ↓reduceIte, Nat.reduceEqDiff, Nat.reduceLT, Nat.reduceAdd, Nat.reduceMul, Nat.reduceLeDiff, Nat.le_refl, Int.natCast_zero, Int.toNat_natCast, Int.reduceToNat]
          repeat' first
            | (with_reducible refine And.intro ?_ ?_)
            | (refine sCallT_one (c_sApplyEvent now p.1 (by omega) (by omega)) ?_; try simp -dsimp -implicitDefEqProofs only [go_sem, ↓reduceIte, Nat.reduceEqDiff, Nat.reduceLT, Nat.reduceAdd, Nat.reduceMul, Nat.reduceLeDiff, Nat.le_refl, Int.natCast_zero, Int.toNat_natCast, Int.reduceToNat, *])
          all_goals try (first | omega | (simp; done))
          rcases hcd : ((applyEvent now p.1).2 == 0) with _ | _
          · have hna : nowAfter now p.1 = now := by rw [nowAfter, if_neg (by simpa using hcd)]
            rw [hna] at i5
            clear hna
            simp -dsimp -implicitDefEqProofs only [go_sem, ↓reduceIte, Nat.reduceEqDiff, Nat.reduceLT, Nat.reduceAdd, Nat.reduceMul, Nat.reduceLeDiff, Nat.le_refl, Int.natCast_zero, Int.toNat_natCast, Int.reduceToNat, hcd]
            repeat' (with_reducible refine And.intro ?_ ?_)
            all_goals try (first | omega | (refine ⟨?_, ?_⟩ <;> omega))
            refine ⟨⟨false, k, now, out ++ [p.1], p.2⟩, ⟨hdo, i2, i3, by simp; omega, by rw [if_pos (by omega)]; exact i5, i6, fun _ => by omega⟩, Nat.lt_succ_self k, .here ?_⟩
            simp only [Bool.false_eq_true, if_false]
            simp -dsimp -implicitDefEqProofs only [go_sem, ↓reduceIte, Nat.reduceEqDiff, Nat.reduceLT, Nat.reduceAdd, Nat.reduceMul, Nat.reduceLeDiff, Nat.le_refl, Int.natCast_zero, Int.toNat_natCast, Int.reduceToNat]
            all_goals first | (simp; done) | omega | (exact ⟨rfl, rfl⟩) | (simp [i2, i3]; done) | trace_state
          · have hna : nowAfter now p.1 = (applyEvent now p.1).1 := by rw [nowAfter, if_pos (by simpa using hcd)]
            rw [hna] at i5
            have hap := applyEvent_len now p.1 (by simpa using hcd)
            obtain ⟨l1, l2, _⟩ := hap
            clear hna
            generalize (applyEvent now p.1).1 = nw at *
            simp -dsimp -implicitDefEqProofs only [go_sem, ↓reduceIte, Nat.reduceEqDiff, Nat.reduceLT, Nat.reduceAdd, Nat.reduceMul, Nat.reduceLeDiff, Nat.le_refl, Int.natCast_zero, Int.toNat_natCast, Int.reduceToNat, hcd]
            repeat' (with_reducible refine And.intro ?_ ?_)
            all_goals try (first | omega | (refine ⟨?_, ?_⟩ <;> omega))
            refine ⟨⟨true, k, nw, out ++ [p.1], p.2⟩, ⟨hdo, l1.trans i2, l2.trans i3, by simp; omega, by rw [if_pos (by omega)]; exact i5, fun h => (by cases h), fun _ => by omega⟩, Nat.lt_succ_self k, .two 36000 700 36001 701 (by decide) (by decide) (by decide) (by decide) ?_⟩
            simp only [if_true]
            simp -dsimp -implicitDefEqProofs only [go_sem, ↓reduceIte, Nat.reduceEqDiff, Nat.reduceLT, Nat.reduceAdd, Nat.reduceMul, Nat.reduceLeDiff, Nat.le_refl, Int.natCast_zero, Int.toNat_natCast, Int.reduceToNat]
            all_goals first | (simp; done) | omega | (exact ⟨rfl, rfl⟩) | (simp [i2, i3]; done) | trace_state
        | true =>
          simp only [if_true]
          simp -dsimp -implicitDefEqProofs only [pick_nil, pick_cons, look_nil, look_cons, dropB_nil, dropB_cons, inD_nil, inD_cons, inE_nil, inE_cons, or_t_l, or_f_l, Nat.reduceBEq, Nat.reduceDiv, Nat.reduceAdd, beq_self_eq_true, Bool.false_eq_true, Bool.or_false, ↓reduceIte, Nat.reduceEqDiff, List.cons_append, List.nil_append]
          simp -dsimp -implicitDefEqProofs only [go_sem, ↓reduceIte, Nat.reduceEqDiff, Nat.reduceLT, Nat.reduceAdd, Nat.reduceMul, Nat.reduceLeDiff, Nat.le_refl, Int.natCast_zero, Int.toNat_natCast, Int.reduceToNat, hk0, hT0]
          refine sCallT_io [1000000000, 700, 701] ?_
          simp -dsimp -implicitDefEqProofs only [go_sem, ↓reduceIte, Nat.reduceEqDiff, Nat.reduceLT, Nat.reduceAdd, Nat.reduceMul, Nat.reduceLeDiff, Nat.le_refl, Int.natCast_zero, Int.toNat_natCast, Int.reduceToNat]
          refine sCallM_one (hde _ _ _ _ _) ?_
          clear hde
          simp -dsimp -implicitDefEqProofs only [go_sem, ↓reduceIte, Nat.reduceEqDiff, Nat.reduceLT, Nat.reduceAdd, Nat.reduceMul, Nat.reduceLeDiff, Nat.le_refl, Int.natCast_zero, Int.toNat_natCast, Int.reduceToNat]
          repeat' first
            | (with_reducible refine And.intro ?_ ?_)
            | (refine sCallT_one (c_sApplyEvent now p.1 (by omega) (by omega)) ?_; try simp -dsimp -implicitDefEqProofs only [go_sem, ↓reduceIte, Nat.reduceEqDiff, Nat.reduceLT, Nat.reduceAdd, Nat.reduceMul, Nat.reduceLeDiff, Nat.le_refl, Int.natCast_zero, Int.toNat_natCast, Int.reduceToNat, *])
          all_goals try (first | omega | (simp; done))
          rcases hcd : ((applyEvent now p.1).2 == 0) with _ | _
          · have hna : nowAfter now p.1 = now := by rw [nowAfter, if_neg (by simpa using hcd)]
            rw [hna] at i5
            clear hna
            simp -dsimp -implicitDefEqProofs only [go_sem, ↓reduceIte, Nat.reduceEqDiff, Nat.reduceLT, Nat.reduceAdd, Nat.reduceMul, Nat.reduceLeDiff, Nat.le_refl, Int.natCast_zero, Int.toNat_natCast, Int.reduceToNat, hcd]
            repeat' (with_reducible refine And.intro ?_ ?_)
            all_goals try (first | omega | (refine ⟨?_, ?_⟩ <;> omega))
            refine ⟨⟨true, k, now, out ++ [p.1], p.2⟩, ⟨hdo, i2, i3, by simp; omega, by rw [if_pos (by omega)]; exact i5, i6, fun _ => by omega⟩, Nat.lt_succ_self k, .here ?_⟩
            simp only [if_true]
            simp -dsimp -implicitDefEqProofs only [go_sem, ↓reduceIte, Nat.reduceEqDiff, Nat.reduceLT, Nat.reduceAdd, Nat.reduceMul, Nat.reduceLeDiff, Nat.le_refl, Int.natCast_zero, Int.toNat_natCast, Int.reduceToNat]
            all_goals first | (simp; done) | omega | (exact ⟨rfl, rfl⟩) | (simp [i2, i3]; done) | trace_state
          · have hna : nowAfter now p.1 = (applyEvent now p.1).1 := by rw [nowAfter, if_pos (by simpa using hcd)]
            rw [hna] at i5
            have hap := applyEvent_len now p.1 (by simpa using hcd)
            obtain ⟨l1, l2, _⟩ := hap
            clear hna
            generalize (applyEvent now p.1).1 = nw at *
            simp -dsimp -implicitDefEqProofs only [go_sem, ↓reduceIte, Nat.reduceEqDiff, Nat.reduceLT, Nat.reduceAdd, Nat.reduceMul, Nat.reduceLeDiff, Nat.le_refl, Int.natCast_zero, Int.toNat_natCast, Int.reduceToNat, hcd]
            repeat' (with_reducible refine And.intro ?_ ?_)
            all_goals try (first | omega | (refine ⟨?_, ?_⟩ <;> omega))
            refine ⟨⟨true, k, nw, out ++ [p.1], p.2⟩, ⟨hdo, l1.trans i2, l2.trans i3, by simp; omega, by rw [if_pos (by omega)]; exact i5, fun h => (by cases h), fun _ => by omega⟩, Nat.lt_succ_self k, .two 36000 700 36001 701 (by decide) (by decide) (by decide) (by decide) ?_⟩
            simp only [if_true]
            simp -dsimp -implicitDefEqProofs only [go_sem, ↓reduceIte, Nat.reduceEqDiff, Nat.reduceLT, Nat.reduceAdd, Nat.reduceMul, Nat.reduceLeDiff, Nat.le_refl, Int.natCast_zero, Int.toNat_natCast, Int.reduceToNat]
            all_goals first | (simp; done) | omega | (exact ⟨rfl, rfl⟩) | (simp [i2, i3]; done) | trace_state
end Go.Vc
/-
  Contracts: registers that are drawn.
-/
set_option linter.unusedVariables false
set_option linter.unusedSimpArgs false
set_option linter.unnecessarySimpa false
namespace Go.Vc
open Go.Proofs
set_option maxRecDepth 100000
attribute [local irreducible] drawEvent
theorem isReg_apply {r : RegM} {e : EvM} (hr : isReg r = true) (he : isEv r e = true) (hc : canEv r e = true) : isReg (applyEv r e) = true := by
  have hin := isEv_in he
  have ht : isTag (tagOf r e) r.roles.length = true := by
    have := hr
    simp only [isReg, Bool.and_eq_true, List.all_eq_true] at this
    exact this.2 _ (List.mem_of_getElem? (tag_get he))
  have hn : isTag (applyTag (tagOf r e) e) r.roles.length = true := by
    simp only [canEv, Bool.and_eq_true, beq_iff_eq] at hc
    have h2 := hc.2
    simp only [isEv, isEvent, Bool.and_eq_true] at he
    simp only [isTag, Bool.and_eq_true] at ht ⊢
    unfold applyTag
    by_cases k0 : e.kind = 0
    · have hp := he.2
      rw [if_pos k0] at hp ⊢
      exact ⟨ht.1, by simpa using hp⟩
    rw [if_neg k0]
    by_cases k2 : e.kind = 2
    · rw [if_pos k2]
      have hs : (tagOf r e).state = 1 := by rw [h2, before, if_pos (.inr k2)]
      have hp := ht.2
      rw [hs] at hp
      exact ⟨ht.1, by simpa using hp⟩
    rw [if_neg k2]
    split
    · exact ⟨ht.1, by simp⟩
    · exact ⟨ht.1, by simp⟩
  simp only [isReg, Bool.and_eq_true, List.all_eq_true] at hr ⊢
  refine ⟨⟨⟨?_, hr.1.1.2⟩, hr.1.2⟩, fun t htm => ?_⟩
  · simpa [applyEv] using hr.1.1.1
  · simp only [applyEv] at htm ⊢
    rcases List.mem_or_eq_of_mem_set htm with h | h
    · exact hr.2 t h
    · rw [h]; exact hn
theorem isReg_num {r : RegM} (h : isReg r = true) : r.tags.length ≤ 20 ∧ 1 ≤ r.roles.length ∧ r.roles.length ≤ 10 := by
  simp only [isReg, Bool.and_eq_true, isIn, decide_eq_true_eq] at h
  omega
theorem isReg_new {rows roles : List Int} (h1 : rows.length ≤ 20) (h2 : ∀ x ∈ rows, 0 ≤ x ∧ x ≤ 9) (h3 : 1 ≤ roles.length ∧ roles.length ≤ 10) (h4 : ∀ x ∈ roles, 0 ≤ x ∧ x ≤ 2) : isReg (newReg rows roles) = true := by
  simp only [isReg, Bool.and_eq_true, List.all_eq_true, newReg, List.length_map, decide_eq_true_eq]
  refine ⟨⟨⟨h1, ?_⟩, fun x hx => ?_⟩, fun t ht => ?_⟩
  · simp [isIn]; omega
  · have := h4 x hx; simp [isIn]; omega
  · obtain ⟨x, hx, rfl⟩ := List.mem_map.1 ht
    have := h2 x hx
    simp [isTag, isIn]; omega
set_option maxHeartbeats 4000000 in
theorem c_l30Start (v : Nat) (bs : List UInt8) (s : Src) (h : SrcOk s) (hl : bs.length ≤ 4096) :
    FnM Tryz.prog 91 [srcB v bs s] [.ptr 1000000000 v 0 0] (fun x io => ∃ (r : RegM) (s' : Src), SrcOk s' ∧ isReg r = true ∧ x = eReg r ∧ io = [srcB v bs s']) := by
  refine FnM.of_vc 40 [.cell 2 29] Tryz.func91 rfl rfl rfl rfl rfl (of_decide_eq_true rfl) ?_
  have h1 := nx_ok bs 7 h
  have h2 := h1.2.2.1 (by omega)
  simp -dsimp -implicitDefEqProofs only [go_sem, ↓reduceIte, Nat.reduceEqDiff, Nat.reduceLT, Nat.reduceAdd, Nat.reduceMul, Nat.reduceLeDiff, Nat.le_refl, Int.natCast_zero, Int.toNat_natCast, Int.reduceToNat]
  repeat' (with_reducible refine And.intro ?_ ?_)
  (refine sCallT_io [1000000000] ?_; simp -dsimp -implicitDefEqProofs only [go_sem, ↓reduceIte, Nat.reduceEqDiff, Nat.reduceLT, Nat.reduceAdd, Nat.reduceMul, Nat.reduceLeDiff, Nat.le_refl, Int.natCast_zero, Int.toNat_natCast, Int.reduceToNat]; refine sCallM_one (c_l01Next _ bs 7 _ h hl) ?_; simp -dsimp -implicitDefEqProofs only [go_sem, ↓reduceIte, Nat.reduceEqDiff, Nat.reduceLT, Nat.reduceAdd, Nat.reduceMul, Nat.reduceLeDiff, Nat.le_refl, Int.natCast_zero, Int.toNat_natCast, Int.reduceToNat])
  generalize nx bs 7 s = a at *
  refine Later.lp [0, 2, 4] [19, 20, 21] [9, 1000000000] (fun x : Nat × List Int × Src => SrcOk x.2.2 ∧ x.1 + x.2.1.length ≤ 6 ∧ ∀ y ∈ x.2.1, 0 ≤ y ∧ y ≤ 9)
    (fun x => [(5, eI x.1), (3, .ref 9 0 0 x.2.1.length)]) (fun x => [(9, .row 0 ⟨1, false⟩ true (x.2.1.map eI)), (1000000000, srcB v bs x.2.2)]) (fun x => x.1) (a.1.toNat, [], a.2) ⟨h1.2.2.2, by simp; omega, fun y hy => by cases hy⟩ ?_ rfl (fun x hI => ?_)
  · dsimp only
    rw [show ((a.1.toNat : Nat) : Int) = a.1 by omega]
    simp -dsimp -implicitDefEqProofs only [go_sem, ↓reduceIte, Nat.reduceEqDiff, Nat.reduceLT, Nat.reduceAdd, Nat.reduceMul, Nat.reduceLeDiff, Nat.le_refl, Int.natCast_zero, Int.toNat_natCast, Int.reduceToNat]
  · obtain ⟨k, rows, s⟩ := x
    obtain ⟨q1, q2, q3⟩ := hI
    dsimp only at q1 q2 q3 ⊢
    clear h1 h2 h
    cases k with
    | zero =>
      have hk0 : decide ((0 : Int) > 0) = false := rfl
      have g1 := nx_ok bs 4 q1
      have g2 := g1.2.2.1 (by omega)
      have hcn := fun v => c_l01Next v bs 4 s q1 hl
      generalize nx bs 4 s = b at *
      simp -dsimp -implicitDefEqProofs only [pick_nil, pick_cons, look_nil, look_cons, dropB_nil, dropB_cons, inD_nil, inD_cons, inE_nil, inE_cons, or_t_l, or_f_l, Nat.reduceBEq, Nat.reduceDiv, Nat.reduceAdd, beq_self_eq_true, Bool.false_eq_true, Bool.or_false, ↓reduceIte, Nat.reduceEqDiff, List.cons_append, List.nil_append]
      simp -dsimp -implicitDefEqProofs only [go_sem, ↓reduceIte, Nat.reduceEqDiff, Nat.reduceLT, Nat.reduceAdd, Nat.reduceMul, Nat.reduceLeDiff, Nat.le_refl, Int.natCast_zero, Int.toNat_natCast, Int.reduceToNat, hk0]
      (refine sCallT_io [1000000000] ?_; simp -dsimp -implicitDefEqProofs only [go_sem, ↓reduceIte, Nat.reduceEqDiff, Nat.reduceLT, Nat.reduceAdd, Nat.reduceMul, Nat.reduceLeDiff, Nat.le_refl, Int.natCast_zero, Int.toNat_natCast, Int.reduceToNat]; refine sCallM_one (hcn _) ?_; simp -dsimp -implicitDefEqProofs only [go_sem, ↓reduceIte, Nat.reduceEqDiff, Nat.reduceLT, Nat.reduceAdd, Nat.reduceMul, Nat.reduceLeDiff, Nat.le_refl, Int.natCast_zero, Int.toNat_natCast, Int.reduceToNat])
      refine Later.lp [0, 2, 3] [30, 31, 32] [10, 1000000000] (fun x : Nat × List Int × Src => SrcOk x.2.2 ∧ x.1 + x.2.1.length ≤ 4 ∧ 1 ≤ x.2.1.length ∧ ∀ y ∈ x.2.1, 0 ≤ y ∧ y ≤ 2)
        (fun x => [(6, eI x.1), (4, .ref 10 0 0 x.2.1.length)]) (fun x => [(10, .row 0 ⟨1, false⟩ true (x.2.1.map eI)), (1000000000, srcB v bs x.2.2)]) (fun x => x.1) (b.1.toNat, [2], b.2) ⟨g1.2.2.2, by simp; omega, by simp, fun y hy => by simp at hy; omega⟩ ?_ rfl (fun x hI => ?_)
      · dsimp only
        rw [show ((b.1.toNat : Nat) : Int) = b.1 by omega]
        simp -dsimp -implicitDefEqProofs only [go_sem, ↓reduceIte, Nat.reduceEqDiff, Nat.reduceLT, Nat.reduceAdd, Nat.reduceMul, Nat.reduceLeDiff, Nat.le_refl, Int.natCast_zero, Int.toNat_natCast, Int.reduceToNat]
        all_goals (first | omega | (rw [List.take_of_length_le (by simp)]; simp; done) | (refine ⟨?_, ?_⟩ <;> omega) | (exact rfl) | (simp; done) | (simp [*]; done) | trace_state)
      · obtain ⟨k, roles, s⟩ := x
        obtain ⟨p1, p2, p4, p3⟩ := hI
        dsimp only at p1 p2 p3 p4 ⊢
        clear g1 g2 hcn q1
        cases k with
        | zero =>
          have hk0 : decide ((0 : Int) > 0) = false := rfl
          have hreg := isReg_new (rows := rows) (roles := roles) (by omega) q3 (by omega) p3
          have hnew : newRegister rows roles = (newReg rows roles, 0) := by rw [newRegister, if_pos hreg]
          have hc := c_sNewRegister rows roles (by omega) (by omega)
          rw [hnew] at hc
          simp -dsimp -implicitDefEqProofs only [pick_nil, pick_cons, look_nil, look_cons, dropB_nil, dropB_cons, inD_nil, inD_cons, inE_nil, inE_cons, or_t_l, or_f_l, Nat.reduceBEq, Nat.reduceDiv, Nat.reduceAdd, beq_self_eq_true, Bool.false_eq_true, Bool.or_false, ↓reduceIte, Nat.reduceEqDiff, List.cons_append, List.nil_append]
          simp -dsimp -implicitDefEqProofs only [go_sem, ↓reduceIte, Nat.reduceEqDiff, Nat.reduceLT, Nat.reduceAdd, Nat.reduceMul, Nat.reduceLeDiff, Nat.le_refl, Int.natCast_zero, Int.toNat_natCast, Int.reduceToNat, hk0]
          (refine sCallT_one (hc) ?_; try simp -dsimp -implicitDefEqProofs only [go_sem, ↓reduceIte, Nat.reduceEqDiff, Nat.reduceLT, Nat.reduceAdd, Nat.reduceMul, Nat.reduceLeDiff, Nat.le_refl, Int.natCast_zero, Int.toNat_natCast, Int.reduceToNat, *])
          exact ⟨by simp, by simp, _, _, p1, hreg, rfl, rfl⟩
        | succ k =>
          have hk0 : decide (((k + 1 : Nat) : Int) > 0) = true := decide_eq_true (by omega)
          have g1 := nx_ok bs 3 p1
          have g2 := g1.2.2.1 (by omega)
          have hcn := fun v => c_l01Next v bs 3 s p1 hl
          generalize nx bs 3 s = c at *
          simp -dsimp -implicitDefEqProofs only [pick_nil, pick_cons, look_nil, look_cons, dropB_nil, dropB_cons, inD_nil, inD_cons, inE_nil, inE_cons, or_t_l, or_f_l, Nat.reduceBEq, Nat.reduceDiv, Nat.reduceAdd, beq_self_eq_true, Bool.false_eq_true, Bool.or_false, ↓reduceIte, Nat.reduceEqDiff, List.cons_append, List.nil_append]
          simp -dsimp -implicitDefEqProofs only [go_sem, ↓reduceIte, Nat.reduceEqDiff, Nat.reduceLT, Nat.reduceAdd, Nat.reduceMul, Nat.reduceLeDiff, Nat.le_refl, Int.natCast_zero, Int.toNat_natCast, Int.reduceToNat, hk0]
          (refine sCallT_io [1000000000] ?_; simp -dsimp -implicitDefEqProofs only [go_sem, ↓reduceIte, Nat.reduceEqDiff, Nat.reduceLT, Nat.reduceAdd, Nat.reduceMul, Nat.reduceLeDiff, Nat.le_refl, Int.natCast_zero, Int.toNat_natCast, Int.reduceToNat]; refine sCallM_one (hcn _) ?_; simp -dsimp -implicitDefEqProofs only [go_sem, ↓reduceIte, Nat.reduceEqDiff, Nat.reduceLT, Nat.reduceAdd, Nat.reduceMul, Nat.reduceLeDiff, Nat.le_refl, Int.natCast_zero, Int.toNat_natCast, Int.reduceToNat])
          repeat' (with_reducible refine And.intro ?_ ?_)
          all_goals try (first | omega | (refine ⟨?_, ?_⟩ <;> omega) | (simp; done))
          refine ⟨(k, roles ++ [c.1], c.2), ⟨g1.2.2.2, by simp; omega, by simp, fun y hy => ?_⟩, Nat.lt_succ_self k, ?_⟩
          · rcases List.mem_append.1 hy with hy | hy
            · exact p3 y hy
            · rw [List.mem_singleton] at hy; subst hy; omega
          · simp -dsimp -implicitDefEqProofs only [go_sem, ↓reduceIte, Nat.reduceEqDiff, Nat.reduceLT, Nat.reduceAdd, Nat.reduceMul, Nat.reduceLeDiff, Nat.le_refl, Int.natCast_zero, Int.toNat_natCast, Int.reduceToNat]
            all_goals (first | omega | (rw [List.take_of_length_le (by simp)]; simp; done) | (refine ⟨?_, ?_⟩ <;> omega) | (exact rfl) | (simp; done) | (simp [*]; done) | trace_state)
    | succ k =>
      have hk0 : decide (((k + 1 : Nat) : Int) > 0) = true := decide_eq_true (by omega)
      have g1 := nx_ok bs 4 q1
      have g2 := g1.2.2.1 (by omega)
      have hcn := fun v => c_l01Next v bs 4 s q1 hl
      generalize nx bs 4 s = c at *
      simp -dsimp -implicitDefEqProofs only [pick_nil, pick_cons, look_nil, look_cons, dropB_nil, dropB_cons, inD_nil, inD_cons, inE_nil, inE_cons, or_t_l, or_f_l, Nat.reduceBEq, Nat.reduceDiv, Nat.reduceAdd, beq_self_eq_true, Bool.false_eq_true, Bool.or_false, ↓reduceIte, Nat.reduceEqDiff, List.cons_append, List.nil_append]
      simp -dsimp -implicitDefEqProofs only [go_sem, ↓reduceIte, Nat.reduceEqDiff, Nat.reduceLT, Nat.reduceAdd, Nat.reduceMul, Nat.reduceLeDiff, Nat.le_refl, Int.natCast_zero, Int.toNat_natCast, Int.reduceToNat, hk0]
      (refine sCallT_io [1000000000] ?_; simp -dsimp -implicitDefEqProofs only [go_sem, ↓reduceIte, Nat.reduceEqDiff, Nat.reduceLT, Nat.reduceAdd, Nat.reduceMul, Nat.reduceLeDiff, Nat.le_refl, Int.natCast_zero, Int.toNat_natCast, Int.reduceToNat]; refine sCallM_one (hcn _) ?_; simp -dsimp -implicitDefEqProofs only [go_sem, ↓reduceIte, Nat.reduceEqDiff, Nat.reduceLT, Nat.reduceAdd, Nat.reduceMul, Nat.reduceLeDiff, Nat.le_refl, Int.natCast_zero, Int.toNat_natCast, Int.reduceToNat])
      repeat' (with_reducible refine And.intro ?_ ?_)
      all_goals try (first | omega | (refine ⟨?_, ?_⟩ <;> omega) | (simp; done))
      refine ⟨(k, rows ++ [c.1], c.2), ⟨g1.2.2.2, by simp; omega, fun y hy => ?_⟩, Nat.lt_succ_self k, ?_⟩
      · rcases List.mem_append.1 hy with hy | hy
        · exact q3 y hy
        · rw [List.mem_singleton] at hy; subst hy; omega
      · simp -dsimp -implicitDefEqProofs only [go_sem, ↓reduceIte, Nat.reduceEqDiff, Nat.reduceLT, Nat.reduceAdd, Nat.reduceMul, Nat.reduceLeDiff, Nat.le_refl, Int.natCast_zero, Int.toNat_natCast, Int.reduceToNat]
        all_goals (first | omega | (rw [List.take_of_length_le (by simp)]; simp; done) | (refine ⟨?_, ?_⟩ <;> omega) | (exact rfl) | (simp; done) | (simp [*]; done) | trace_state)
set_option maxHeartbeats 8000000 in
theorem c_l30Draw (v : Nat) (bs : List UInt8) (s : Src) (h : SrcOk s) (hl : bs.length ≤ 4096) :
    FnM Tryz.prog 76 [srcB v bs s] [.ptr 1000000000 v 0 0] (fun x io => ∃ (r : RegM) (s' : Src), SrcOk s' ∧ r.tags.length ≤ 21 ∧ r.roles.length ≤ 10 ∧ x = eReg r ∧ io = [srcB v bs s']) := by
  refine FnM.nil ?_
  refine FnM.of_vc 73 [.cell 2 29] Tryz.func76 rfl rfl rfl rfl rfl (of_decide_eq_true rfl) ?_
  simp -dsimp -implicitDefEqProofs only [go_sem, ↓reduceIte, Nat.reduceEqDiff, Nat.reduceLT, Nat.reduceAdd, Nat.reduceMul, Nat.reduceLeDiff, Nat.le_refl, Int.natCast_zero, Int.toNat_natCast, Int.reduceToNat]
  repeat' (with_reducible refine And.intro ?_ ?_)
  refine sCallT_io [1000000000] ?_
  simp -dsimp -implicitDefEqProofs only [go_sem, ↓reduceIte, Nat.reduceEqDiff, Nat.reduceLT, Nat.reduceAdd, Nat.reduceMul, Nat.reduceLeDiff, Nat.le_refl, Int.natCast_zero, Int.toNat_natCast, Int.reduceToNat]
  refine sCallM_any (c_l30Start _ bs s h hl) ?_
  rintro _ _ ⟨r, s1, o1, hr, rfl, rfl⟩
  have hn := isReg_num hr
  simp -dsimp -implicitDefEqProofs only [go_sem, ↓reduceIte, Nat.reduceEqDiff, Nat.reduceLT, Nat.reduceAdd, Nat.reduceMul, Nat.reduceLeDiff, Nat.le_refl, Int.natCast_zero, Int.toNat_natCast, Int.reduceToNat]
  refine sCallT_io [1000000000, 10000, 10001] ?_
  simp -dsimp -implicitDefEqProofs only [go_sem, ↓reduceIte, Nat.reduceEqDiff, Nat.reduceLT, Nat.reduceAdd, Nat.reduceMul, Nat.reduceLeDiff, Nat.le_refl, Int.natCast_zero, Int.toNat_natCast, Int.reduceToNat]
  refine sCallM_one (c_l30DrawEvents _ _ _ bs r s1 o1 hl (by omega) (by omega)) ?_
  have hd := drawEvents_ok bs r o1
  generalize drawEvents bs r s1 = ev at *
  obtain ⟨es, s2⟩ := ev
  dsimp only at hd ⊢
  obtain ⟨o2, hel⟩ := hd
  clear h o1
  simp -dsimp -implicitDefEqProofs only [go_sem, ↓reduceIte, Nat.reduceEqDiff, Nat.reduceLT, Nat.reduceAdd, Nat.reduceMul, Nat.reduceLeDiff, Nat.le_refl, Int.natCast_zero, Int.toNat_natCast, Int.reduceToNat]
  refine Later.lpR [0, 2, 3, 4] [6, 15, 25] [3, 10000, 10001, 26000, 26001] (fun x : Nat × RegM => x.1 ≤ es.length ∧ isReg x.2 = true) (fun x => [(5, eI x.1)])
    (fun x => [(3, .box 0 [.ref 10000 0 0 x.2.tags.length, .ref 10001 0 0 x.2.roles.length]), (10000, .row 0 ⟨3, true⟩ true (x.2.tags.map eTag)), (10001, .row 0 ⟨1, false⟩ true (x.2.roles.map eI))])
    (fun x => es.length - x.1) (0, r) ⟨Nat.zero_le _, hr⟩ (.here ?_) rfl (fun x hI => ?_)
  · simp -dsimp -implicitDefEqProofs only [go_sem, ↓reduceIte, Nat.reduceEqDiff, Nat.reduceLT, Nat.reduceAdd, Nat.reduceMul, Nat.reduceLeDiff, Nat.le_refl, Int.natCast_zero, Int.toNat_natCast, Int.reduceToNat]
  · obtain ⟨i, r⟩ := x
    obtain ⟨i1, i2⟩ := hI
    dsimp only at i1 i2 ⊢
    clear hr hn
    have hn := isReg_num i2
    by_cases hi : i < es.length
    · have li := lt_len hi
      have gi := get_some hi
      have hca := c_sApplyEvent r es[i] (by omega) (by omega)
      have hna : (applyEvent r es[i]).2 = 0 → isReg (applyEvent r es[i]).1 = true := fun h => by
        obtain ⟨_, _, a3, a4, a5, a6⟩ := applyEvent_len r es[i] h
        rw [a3]; exact isReg_apply a4 a5 a6
      generalize applyEvent r es[i] = q at *
      simp -dsimp -implicitDefEqProofs only [pick_nil, pick_cons, look_nil, look_cons, dropB_nil, dropB_cons, inD_nil, inD_cons, inE_nil, inE_cons, or_t_l, or_f_l, Nat.reduceBEq, Nat.reduceDiv, Nat.reduceAdd, beq_self_eq_true, Bool.false_eq_true, Bool.or_false, ↓reduceIte, Nat.reduceEqDiff, List.cons_append, List.nil_append]
      simp -dsimp -implicitDefEqProofs only [go_sem, ↓reduceIte, Nat.reduceEqDiff, Nat.reduceLT, Nat.reduceAdd, Nat.reduceMul, Nat.reduceLeDiff, Nat.le_refl, Int.natCast_zero, Int.toNat_natCast, Int.reduceToNat, li]
      refine Later.draw mixed rfl ?_
      simp -dsimp -implicitDefEqProofs only [go_sem, ↓reduceIte, Nat.reduceEqDiff, Nat.reduceLT, Nat.reduceAdd, Nat.reduceMul, Nat.reduceLeDiff, Nat.le_refl, Int.natCast_zero, Int.toNat_natCast, Int.reduceToNat, gi]
      repeat' (with_reducible refine And.intro ?_ ?_)
      all_goals try (first | omega | (refine ⟨?_, ?_⟩ <;> omega))
      refine sCallX_one hca ?_
      simp -dsimp -implicitDefEqProofs only [go_sem, ↓reduceIte, Nat.reduceEqDiff, Nat.reduceLT, Nat.reduceAdd, Nat.reduceMul, Nat.reduceLeDiff, Nat.le_refl, Int.natCast_zero, Int.toNat_natCast, Int.reduceToNat]
      repeat' (with_reducible refine And.intro ?_ ?_)
      all_goals try (exact rfl)
      rcases hq : (q.2 == 0) with _ | _
      · simp -dsimp -implicitDefEqProofs only [go_sem, ↓reduceIte, Nat.reduceEqDiff, Nat.reduceLT, Nat.reduceAdd, Nat.reduceMul, Nat.reduceLeDiff, Nat.le_refl, Int.natCast_zero, Int.toNat_natCast, Int.reduceToNat, hq]
        repeat' (with_reducible refine And.intro ?_ ?_)
        all_goals try (first | omega | (refine ⟨?_, ?_⟩ <;> omega))
        refine ⟨(i + 1, r), ⟨hi, i2⟩, by dsimp only; omega, .here ?_⟩
        simp -dsimp -implicitDefEqProofs only [go_sem, ↓reduceIte, Nat.reduceEqDiff, Nat.reduceLT, Nat.reduceAdd, Nat.reduceMul, Nat.reduceLeDiff, Nat.le_refl, Int.natCast_zero, Int.toNat_natCast, Int.reduceToNat]
        all_goals (first | omega | (rw [List.take_of_length_le (by simp)]; simp; done) | (refine ⟨?_, ?_⟩ <;> omega) | (exact rfl) | (simp; done) | (simp [*]; done) | trace_state)
      · simp -dsimp -implicitDefEqProofs only [go_sem, ↓reduceIte, Nat.reduceEqDiff, Nat.reduceLT, Nat.reduceAdd, Nat.reduceMul, Nat.reduceLeDiff, Nat.le_refl, Int.natCast_zero, Int.toNat_natCast, Int.reduceToNat, hq]
        repeat' (with_reducible refine And.intro ?_ ?_)
        all_goals try (first | omega | (refine ⟨?_, ?_⟩ <;> omega))
        refine ⟨(i + 1, q.1), ⟨hi, hna (by simpa using hq)⟩, by dsimp only; omega, .two 26000 10000 26001 10001 (by decide) (by decide) (by decide) (by decide) ?_⟩
        simp -dsimp -implicitDefEqProofs only [go_sem, ↓reduceIte, Nat.reduceEqDiff, Nat.reduceLT, Nat.reduceAdd, Nat.reduceMul, Nat.reduceLeDiff, Nat.le_refl, Int.natCast_zero, Int.toNat_natCast, Int.reduceToNat]
        all_goals (first | omega | (rw [List.take_of_length_le (by simp)]; simp; done) | (refine ⟨?_, ?_⟩ <;> omega) | (exact rfl) | (simp; done) | (simp [*]; done) | trace_state)
    · have e : i = es.length := by omega
      subst e
      clear hi i1
      have h1 := nx_ok bs 30 o2
      have hcn := fun v => c_l01Next v bs 30 s2 o2 hl
      generalize nx bs 30 s2 = z at *
      have o3 := h1.2.2.2
      simp -dsimp -implicitDefEqProofs only [pick_nil, pick_cons, look_nil, look_cons, dropB_nil, dropB_cons, inD_nil, inD_cons, inE_nil, inE_cons, or_t_l, or_f_l, Nat.reduceBEq, Nat.reduceDiv, Nat.reduceAdd, beq_self_eq_true, Bool.false_eq_true, Bool.or_false, ↓reduceIte, Nat.reduceEqDiff, List.cons_append, List.nil_append]
      simp -dsimp -implicitDefEqProofs only [go_sem, ↓reduceIte, Nat.reduceEqDiff, Nat.reduceLT, Nat.reduceAdd, Nat.reduceMul, Nat.reduceLeDiff, Nat.le_refl, Int.natCast_zero, Int.toNat_natCast, Int.reduceToNat, nlt_len]
      (refine sCallT_io [1000000000] ?_; simp -dsimp -implicitDefEqProofs only [go_sem, ↓reduceIte, Nat.reduceEqDiff, Nat.reduceLT, Nat.reduceAdd, Nat.reduceMul, Nat.reduceLeDiff, Nat.le_refl, Int.natCast_zero, Int.toNat_natCast, Int.reduceToNat]; refine sCallM_one (hcn _) ?_; simp -dsimp -implicitDefEqProofs only [go_sem, ↓reduceIte, Nat.reduceEqDiff, Nat.reduceLT, Nat.reduceAdd, Nat.reduceMul, Nat.reduceLeDiff, Nat.le_refl, Int.natCast_zero, Int.toNat_natCast, Int.reduceToNat])
      clear hcn h1
      rcases z0 : (z.1 == 0) with _ | _
      · rcases z1 : (z.1 == 1) with _ | _
        · rcases z2 : (z.1 == 2) with _ | _
          · rcases z3 : (z.1 == 3) with _ | _
            · simp -dsimp -implicitDefEqProofs only [go_sem, ↓reduceIte, Nat.reduceEqDiff, Nat.reduceLT, Nat.reduceAdd, Nat.reduceMul, Nat.reduceLeDiff, Nat.le_refl, Int.natCast_zero, Int.toNat_natCast, Int.reduceToNat, z0, z1, z2, z3]
              refine ⟨by simp, by simp, eReg r, ?_, r, z.2, o3, by omega, by omega, rfl, rfl⟩
              simp -dsimp -implicitDefEqProofs only [go_sem, ↓reduceIte, Nat.reduceEqDiff, Nat.reduceLT, Nat.reduceAdd, Nat.reduceMul, Nat.reduceLeDiff, Nat.le_refl, Int.natCast_zero, Int.toNat_natCast, Int.reduceToNat]
              all_goals (first | omega | (rw [List.take_of_length_le (by simp)]; simp; done) | (refine ⟨?_, ?_⟩ <;> omega) | (exact rfl) | (simp; done) | (simp [*]; done) | trace_state)
            · simp -dsimp -implicitDefEqProofs only [go_sem, ↓reduceIte, Nat.reduceEqDiff, Nat.reduceLT, Nat.reduceAdd, Nat.reduceMul, Nat.reduceLeDiff, Nat.le_refl, Int.natCast_zero, Int.toNat_natCast, Int.reduceToNat, z0, z1, z2, z3]
              have h1 := pk_ok bs [-1, 0, 9, 10] o3
              have h2 := (nx_ok bs 5 h1).2.2.2
              have h3 := pk_ok bs [-1, 0, 9] h2
              have c1 := fun v v2 d ys hy => c_l01Pick v v2 d bs [-1, 0, 9, 10] ys z.2 hy (by decide) (by decide) o3 hl
              have c2 := fun v => c_l01Next v bs 5 _ h1 hl
              have c3 := fun v v2 d ys hy => c_l01Pick v v2 d bs [-1, 0, 9] ys _ hy (by decide) (by decide) h2 hl
              generalize pk bs [-1, 0, 9, 10] z.2 = a at *
              generalize nx bs 5 a.2 = b at *
              generalize pk bs [-1, 0, 9] b.2 = c at *
              refine Later.draw mixed rfl ?_
              simp -dsimp -implicitDefEqProofs only [go_sem, ↓reduceIte, Nat.reduceEqDiff, Nat.reduceLT, Nat.reduceAdd, Nat.reduceMul, Nat.reduceLeDiff, Nat.le_refl, Int.natCast_zero, Int.toNat_natCast, Int.reduceToNat]
              repeat' (with_reducible refine And.intro ?_ ?_)
              all_goals try (first | omega | (refine ⟨?_, ?_⟩ <;> omega))
              (refine sCallX_io [1000000000, 59] rfl ?_; simp -dsimp -implicitDefEqProofs only [go_sem, ↓reduceIte, Nat.reduceEqDiff, Nat.reduceLT, Nat.reduceAdd, Nat.reduceMul, Nat.reduceLeDiff, Nat.le_refl, Int.natCast_zero, Int.toNat_natCast, Int.reduceToNat]; refine sCallMX_one (c1 _ _ _ _ rfl) ?_; simp -dsimp -implicitDefEqProofs only [go_sem, ↓reduceIte, Nat.reduceEqDiff, Nat.reduceLT, Nat.reduceAdd, Nat.reduceMul, Nat.reduceLeDiff, Nat.le_refl, Int.natCast_zero, Int.toNat_natCast, Int.reduceToNat])
              (refine sCallX_io [1000000000] rfl ?_; simp -dsimp -implicitDefEqProofs only [go_sem, ↓reduceIte, Nat.reduceEqDiff, Nat.reduceLT, Nat.reduceAdd, Nat.reduceMul, Nat.reduceLeDiff, Nat.le_refl, Int.natCast_zero, Int.toNat_natCast, Int.reduceToNat]; refine sCallMX_one (c2 _) ?_; simp -dsimp -implicitDefEqProofs only [go_sem, ↓reduceIte, Nat.reduceEqDiff, Nat.reduceLT, Nat.reduceAdd, Nat.reduceMul, Nat.reduceLeDiff, Nat.le_refl, Int.natCast_zero, Int.toNat_natCast, Int.reduceToNat])
              (refine sCallX_io [1000000000, 64] rfl ?_; simp -dsimp -implicitDefEqProofs only [go_sem, ↓reduceIte, Nat.reduceEqDiff, Nat.reduceLT, Nat.reduceAdd, Nat.reduceMul, Nat.reduceLeDiff, Nat.le_refl, Int.natCast_zero, Int.toNat_natCast, Int.reduceToNat]; refine sCallMX_one (c3 _ _ _ _ rfl) ?_; simp -dsimp -implicitDefEqProofs only [go_sem, ↓reduceIte, Nat.reduceEqDiff, Nat.reduceLT, Nat.reduceAdd, Nat.reduceMul, Nat.reduceLeDiff, Nat.le_refl, Int.natCast_zero, Int.toNat_natCast, Int.reduceToNat])
              clear c1 c2 c3
              repeat' (with_reducible refine And.intro ?_ ?_)
              all_goals try (first | omega | (refine ⟨?_, ?_⟩ <;> omega) | (exact rfl) | (simp; done))
              refine ⟨eReg ⟨r.tags ++ [⟨a.1, b.1, c.1⟩], r.roles⟩, ?_, ⟨r.tags ++ [⟨a.1, b.1, c.1⟩], r.roles⟩, c.2, h3, by simp; omega, by dsimp only; omega, rfl, rfl⟩
              simp -dsimp -implicitDefEqProofs only [go_sem, ↓reduceIte, Nat.reduceEqDiff, Nat.reduceLT, Nat.reduceAdd, Nat.reduceMul, Nat.reduceLeDiff, Nat.le_refl, Int.natCast_zero, Int.toNat_natCast, Int.reduceToNat]
              all_goals (first | omega | (rw [List.take_of_length_le (by simp)]; simp; done) | (refine ⟨?_, ?_⟩ <;> omega) | (exact rfl) | (simp; done) | (simp [*]; done) | trace_state)
          · simp -dsimp -implicitDefEqProofs only [go_sem, ↓reduceIte, Nat.reduceEqDiff, Nat.reduceLT, Nat.reduceAdd, Nat.reduceMul, Nat.reduceLeDiff, Nat.le_refl, Int.natCast_zero, Int.toNat_natCast, Int.reduceToNat, z0, z1, z2]
            refine Later.draw mixed rfl ?_
            simp -dsimp -implicitDefEqProofs only [go_sem, ↓reduceIte, Nat.reduceEqDiff, Nat.reduceLT, Nat.reduceAdd, Nat.reduceMul, Nat.reduceLeDiff, Nat.le_refl, Int.natCast_zero, Int.toNat_natCast, Int.reduceToNat]
            repeat' (with_reducible refine And.intro ?_ ?_)
            all_goals try (first | omega | (refine ⟨?_, ?_⟩ <;> omega) | (exact rfl) | (simp; done))
            refine ⟨eReg ⟨List.replicate 21 ⟨0, 0, 0⟩, r.roles⟩, ?_, ⟨List.replicate 21 ⟨0, 0, 0⟩, r.roles⟩, z.2, o3, by simp, by dsimp only; omega, rfl, rfl⟩
            simp -dsimp -implicitDefEqProofs only [go_sem, ↓reduceIte, Nat.reduceEqDiff, Nat.reduceLT, Nat.reduceAdd, Nat.reduceMul, Nat.reduceLeDiff, Nat.le_refl, Int.natCast_zero, Int.toNat_natCast, Int.reduceToNat]
            all_goals (first | omega | (rw [List.take_of_length_le (by simp)]; simp; done) | (refine ⟨?_, ?_⟩ <;> omega) | (exact rfl) | (simp; done) | (simp [*]; done) | trace_state)
        · simp -dsimp -implicitDefEqProofs only [go_sem, ↓reduceIte, Nat.reduceEqDiff, Nat.reduceLT, Nat.reduceAdd, Nat.reduceMul, Nat.reduceLeDiff, Nat.le_refl, Int.natCast_zero, Int.toNat_natCast, Int.reduceToNat, z0, z1]
          refine ⟨by simp, eReg ⟨r.tags, []⟩, ?_, ⟨r.tags, []⟩, z.2, o3, by dsimp only; omega, by simp, rfl, rfl⟩
          simp -dsimp -implicitDefEqProofs only [go_sem, ↓reduceIte, Nat.reduceEqDiff, Nat.reduceLT, Nat.reduceAdd, Nat.reduceMul, Nat.reduceLeDiff, Nat.le_refl, Int.natCast_zero, Int.toNat_natCast, Int.reduceToNat]
          all_goals (first | omega | (rw [List.take_of_length_le (by simp)]; simp; done) | (refine ⟨?_, ?_⟩ <;> omega) | (exact rfl) | (simp; done) | (simp [*]; done) | trace_state)
      · simp -dsimp -implicitDefEqProofs only [go_sem, ↓reduceIte, Nat.reduceEqDiff, Nat.reduceLT, Nat.reduceAdd, Nat.reduceMul, Nat.reduceLeDiff, Nat.le_refl, Int.natCast_zero, Int.toNat_natCast, Int.reduceToNat, z0]
        have h1 := pk_ok bs [-1, 3] o3
        have c1 := fun v v2 d ys hy => c_l01Pick v v2 d bs [-1, 3] ys z.2 hy (by decide) (by decide) o3 hl
        generalize pk bs [-1, 3] z.2 = a at *
        have g0 : r.roles[0]? = some (r.roles[0]'(by omega)) := get_some _
        refine Later.draw mixed rfl ?_
        simp -dsimp -implicitDefEqProofs only [go_sem, ↓reduceIte, Nat.reduceEqDiff, Nat.reduceLT, Nat.reduceAdd, Nat.reduceMul, Nat.reduceLeDiff, Nat.le_refl, Int.natCast_zero, Int.toNat_natCast, Int.reduceToNat]
        repeat' (with_reducible refine And.intro ?_ ?_)
        all_goals try (first | omega | (refine ⟨?_, ?_⟩ <;> omega))
        (refine sCallX_io [1000000000, 38] rfl ?_; simp -dsimp -implicitDefEqProofs only [go_sem, ↓reduceIte, Nat.reduceEqDiff, Nat.reduceLT, Nat.reduceAdd, Nat.reduceMul, Nat.reduceLeDiff, Nat.le_refl, Int.natCast_zero, Int.toNat_natCast, Int.reduceToNat]; refine sCallMX_one (c1 _ _ _ _ rfl) ?_; simp -dsimp -implicitDefEqProofs only [go_sem, ↓reduceIte, Nat.reduceEqDiff, Nat.reduceLT, Nat.reduceAdd, Nat.reduceMul, Nat.reduceLeDiff, Nat.le_refl, Int.natCast_zero, Int.toNat_natCast, Int.reduceToNat])
        clear c1
        repeat' (with_reducible refine And.intro ?_ ?_)
        all_goals try (first | omega | (refine ⟨?_, ?_⟩ <;> omega) | (exact rfl) | (simp; done))
        simp -dsimp -implicitDefEqProofs only [go_sem, ↓reduceIte, Nat.reduceEqDiff, Nat.reduceLT, Nat.reduceAdd, Nat.reduceMul, Nat.reduceLeDiff, Nat.le_refl, Int.natCast_zero, Int.toNat_natCast, Int.reduceToNat, g0]
        repeat' (with_reducible refine And.intro ?_ ?_)
        all_goals try (first | omega | (refine ⟨?_, ?_⟩ <;> omega) | (exact rfl) | (simp; done))
        refine ⟨eReg ⟨r.tags, r.roles.set 0 a.1⟩, ?_, ⟨r.tags, r.roles.set 0 a.1⟩, a.2, h1, by dsimp only; omega, by simp; omega, rfl, rfl⟩
        simp -dsimp -implicitDefEqProofs only [go_sem, ↓reduceIte, Nat.reduceEqDiff, Nat.reduceLT, Nat.reduceAdd, Nat.reduceMul, Nat.reduceLeDiff, Nat.le_refl, Int.natCast_zero, Int.toNat_natCast, Int.reduceToNat]
        all_goals (first | omega | (rw [List.take_of_length_le (by simp)]; simp; done) | (refine ⟨?_, ?_⟩ <;> omega) | (exact rfl) | (simp; done) | (simp [*]; done) | trace_state)
end Go.Vc
