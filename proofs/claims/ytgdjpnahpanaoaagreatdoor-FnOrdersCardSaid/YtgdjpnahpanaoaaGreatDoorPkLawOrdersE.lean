import Derived.Test.YtgdjpnahpanaoaaGreatDoorPkLawOrdersD
open Bool renaming false_eq_true → uq0, or_false → uq1
open List renaming cons_append → uq2, nil_append → uq3
set_option linter.unusedVariables false
set_option linter.unusedSimpArgs false
set_option linter.unnecessarySimpa false
namespace Go.Vc
open Go.Proofs
set_option maxRecDepth 100000
structure BS where
  ps : List Int
  ds : List Bool
  gs : List Int
  src : Src
def lastB (n : Int) (i : Nat) : Bool := (i : Int) == n - 1
def doorB (bs : List UInt8) (n : Int) (i : Nat) (s : Src) : Bool := lastB n i || decide ((nx bs 3 s).1 > 0)
def bldStep (bs : List UInt8) (n : Int) (i : Nat) (z : BS) : BS :=
  ⟨z.ps ++ [z.gs.getD (nx bs z.gs.length z.src).1.toNat 0], z.ds ++ [doorB bs n i (nx bs z.gs.length z.src).2], if doorB bs n i (nx bs z.gs.length z.src).2 = true then z.gs else z.gs ++ [(i : Int)],
    if lastB n i = true then (nx bs z.gs.length z.src).2 else (nx bs 3 (nx bs z.gs.length z.src).2).2⟩
def bldTo (bs : List UInt8) (n : Int) (s : Src) : Nat → BS
  | 0 => ⟨[-1], [false], [0], s⟩
  | j + 1 => bldStep bs n (j + 1) (bldTo bs n s j)
theorem bldTo_zero (bs : List UInt8) (n : Int) (s : Src) : bldTo bs n s 0 = ⟨[-1], [false], [0], s⟩ := rfl
theorem bldTo_succ (bs : List UInt8) (n : Int) (s : Src) (j : Nat) : bldTo bs n s (j + 1) = bldStep bs n (j + 1) (bldTo bs n s j) := rfl
def okP (ps : List Int) : Prop := ∀ i, i < ps.length → -1 ≤ ps.getD i 0 ∧ ps.getD i 0 < i ∧ (0 < i → 0 ≤ ps.getD i 0)
structure bldOk (z : BS) (j : Nat) : Prop where
  src : SrcOk z.src
  lp : z.ps.length = j + 1
  ld : z.ds.length = j + 1
  lg : 1 ≤ z.gs.length ∧ z.gs.length ≤ j + 1
  gs : ∀ g ∈ z.gs, 0 ≤ g ∧ g ≤ j
  ps : okP z.ps
theorem getD_app {xs : List Int} {x : Int} {i : Nat} : (xs ++ [x]).getD i 0 = if i < xs.length then xs.getD i 0 else if i = xs.length then x else 0 := by
  rw [List.getD_eq_getElem?_getD, List.getElem?_append]
  split
  · rw [List.getD_eq_getElem?_getD]
  · split
    · rename_i h; subst h; simp
    · rename_i h1 h2
      rw [List.getElem?_eq_none (by simp; omega)]; rfl
theorem nx_lt (bs : List UInt8) {n : Nat} (hn : 1 ≤ n) {s : Src} (h : SrcOk s) : (nx bs n s).1.toNat < n ∧ 0 ≤ (nx bs n s).1 := by
  obtain ⟨h1, h2, h3, _⟩ := nx_ok bs n h
  by_cases h4 : (n : Int) ≤ 1
  · rw [h2 h4]; exact ⟨by simp; omega, by simp⟩
  · have := h3 (by omega); omega
theorem bldStep_ok {bs : List UInt8} {n : Int} {j : Nat} {z : BS} (h : bldOk z j) : bldOk (bldStep bs n (j + 1) z) (j + 1) := by
  obtain ⟨h1, h2, h3, h4, h5, h6⟩ := h
  have a := nx_ok bs z.gs.length h1
  have a2 := nx_lt bs h4.1 h1
  have b := nx_ok bs 3 a.2.2.2
  have hg := h5 _ (List.getElem_mem a2.1)
  have e : z.gs.getD (nx bs z.gs.length z.src).1.toNat 0 = z.gs[(nx bs z.gs.length z.src).1.toNat]'a2.1 := by simp [List.getD_eq_getElem?_getD, a2.1]
  refine ⟨?_, by simp [bldStep, h2], by simp [bldStep, h3], ?_, ?_, ?_⟩
  · show SrcOk (if _ then _ else _)
    split
    · exact a.2.2.2
    · exact b.2.2.2
  · have hgs : (bldStep bs n (j + 1) z).gs = if doorB bs n (j + 1) (nx bs z.gs.length z.src).2 = true then z.gs else z.gs ++ [((j + 1 : Nat) : Int)] := rfl
    rw [hgs]
    split
    · exact ⟨h4.1, by omega⟩
    · rw [List.length_append, List.length_singleton]; omega
  · intro g hgm
    change g ∈ (if _ then _ else _ : List Int) at hgm
    split at hgm
    · have := h5 g hgm; omega
    · rcases List.mem_append.1 hgm with h | h
      · have := h5 g h; omega
      · simp at h; omega
  · intro i hi
    change i < (z.ps ++ [_]).length at hi
    have hps : (bldStep bs n (j + 1) z).ps = z.ps ++ [z.gs.getD (nx bs z.gs.length z.src).1.toNat 0] := rfl
    rw [hps, getD_app, e]
    split
    · exact h6 i (by assumption)
    · rw [if_pos (by simp at hi; omega)]
      have : i = j + 1 := by simp at hi; omega
      omega
theorem bldTo_ok {bs : List UInt8} {n : Int} {s : Src} (h : SrcOk s) : ∀ j, bldOk (bldTo bs n s j) j
  | 0 => ⟨h, rfl, rfl, by simp [bldTo_zero], fun g hg => by simp [bldTo_zero] at hg; omega, fun i hi => by
      have : i = 0 := by simpa [bldTo_zero] using hi
      subst this
      simp [bldTo_zero]⟩
  | j + 1 => bldStep_ok (bldTo_ok h j)
def bldN (bs : List UInt8) (s : Src) : Int := 2 + (nx bs 9 s).1
def bldD (bs : List UInt8) (s : Src) : BS := bldTo bs (bldN bs s) (nx bs 9 s).2 (bldN bs s - 1).toNat
theorem bldN_in (bs : List UInt8) {s : Src} (h : SrcOk s) : 2 ≤ bldN bs s ∧ bldN bs s ≤ 10 := by
  have := nx_ok bs 9 h
  have h3 := this.2.2.1 (by omega)
  unfold bldN; omega
theorem bldD_ok (bs : List UInt8) {s : Src} (h : SrcOk s) : bldOk (bldD bs s) (bldN bs s - 1).toNat ∧ (bldD bs s).ds.getD (bldN bs s - 1).toNat false = true := by
  have hn := bldN_in bs h
  refine ⟨bldTo_ok (nx_ok bs 9 h).2.2.2 _, ?_⟩
  unfold bldD
  obtain ⟨j, hj⟩ : ∃ j, (bldN bs s - 1).toNat = j + 1 := ⟨(bldN bs s - 2).toNat, by omega⟩
  rw [hj, bldTo_succ]
  have hl := (bldTo_ok (bs := bs) (n := bldN bs s) (nx_ok bs 9 h).2.2.2 j).ld
  show (_ ++ [_]).getD (j + 1) false = true
  rw [List.getD_eq_getElem?_getD, List.getElem?_append_right (by omega), hl]
  have : lastB (bldN bs s) (j + 1) = true := by unfold lastB; rw [beq_iff_eq]; omega
  simp [doorB, this]
def undF (ps : List Int) : Nat → Int → Int → Bool
  | 0, _, _ => false
  | k + 1, node, other => if node < 0 then false else if (node == other) = true then true else undF ps k (ps.getD node.toNat 0) other
theorem undF_root {ps : List Int} (h : okP ps) : ∀ (k : Nat) (node : Int), 0 ≤ node → node < k → node < ps.length → undF ps k node 0 = true
  | 0, node, h0, h1, _ => by omega
  | k + 1, node, h0, h1, h2 => by
    simp only [undF]
    rw [if_neg (by omega)]
    by_cases e : node = 0
    · subst e; rfl
    · rw [if_neg (by simpa using e)]
      have hi := h node.toNat (by omega)
      exact undF_root h k _ (hi.2.2 (by omega)) (by omega) (by omega)
def doorsU (ps : List Int) (ds : List Bool) (node : Int) : List Int := flt (fun i => ds.getD i false && undF ps ps.length (i : Int) node) ds.length
def mayE (ps : List Int) (nodes : List Int) (door : Int) : Bool := nodes.any fun x => undF ps ps.length door x
def nodesTo (bs : List UInt8) (s : Src) : Nat → List Int × Src
  | 0 => ([], s)
  | i + 1 => (if ((nx bs 4 (nodesTo bs s i).2).1 == 0) = true then (nodesTo bs s i).1 ++ [(i : Int)] else (nodesTo bs s i).1, (nx bs 4 (nodesTo bs s i).2).2)
theorem nodesTo_succ (bs : List UInt8) (s : Src) (i : Nat) : nodesTo bs s (i + 1) = (if ((nx bs 4 (nodesTo bs s i).2).1 == 0) = true then (nodesTo bs s i).1 ++ [(i : Int)] else (nodesTo bs s i).1, (nx bs 4 (nodesTo bs s i).2).2) := rfl
theorem nodesTo_ok {bs : List UInt8} {s : Src} (h : SrcOk s) : ∀ i, SrcOk (nodesTo bs s i).2 ∧ (nodesTo bs s i).1.length ≤ i
  | 0 => ⟨h, Nat.le_refl _⟩
  | i + 1 => by
    obtain ⟨h1, h2⟩ := nodesTo_ok h i (bs := bs)
    rw [nodesTo_succ]
    refine ⟨(nx_ok bs 4 h1).2.2.2, ?_⟩
    simp only
    split
    · simp; omega
    · omega
def nodesD (bs : List UInt8) (n : Nat) (s : Src) : List Int × Src :=
  if ((((nodesTo bs s n).1.length : Int) == 0) = true) then ([(nx bs n (nodesTo bs s n).2).1], (nx bs n (nodesTo bs s n).2).2) else nodesTo bs s n
theorem nodesD_ok {bs : List UInt8} {s : Src} (h : SrcOk s) (n : Nat) : SrcOk (nodesD bs n s).2 ∧ (nodesD bs n s).1.length ≤ n + 1 := by
  obtain ⟨h1, h2⟩ := nodesTo_ok h n (bs := bs)
  unfold nodesD
  split
  · exact ⟨(nx_ok bs n h1).2.2.2, by simp⟩
  · exact ⟨h1, by omega⟩
def rightsTo (bs : List UInt8) (n : Nat) (s : Src) : Nat → List (List Int) × Src
  | 0 => ([], s)
  | i + 1 => ((rightsTo bs n s i).1 ++ [(nodesD bs n (rightsTo bs n s i).2).1], (nodesD bs n (rightsTo bs n s i).2).2)
theorem rightsTo_succ (bs : List UInt8) (n : Nat) (s : Src) (i : Nat) : rightsTo bs n s (i + 1) = ((rightsTo bs n s i).1 ++ [(nodesD bs n (rightsTo bs n s i).2).1], (nodesD bs n (rightsTo bs n s i).2).2) := rfl
theorem rightsTo_ok {bs : List UInt8} {s : Src} (h : SrcOk s) (n : Nat) : ∀ i, SrcOk (rightsTo bs n s i).2 ∧ (rightsTo bs n s i).1.length = i ∧ ∀ x ∈ (rightsTo bs n s i).1, x.length ≤ n + 1
  | 0 => ⟨h, rfl, fun x hx => by cases hx⟩
  | i + 1 => by
    obtain ⟨h1, h2, h3⟩ := rightsTo_ok h n i (bs := bs)
    obtain ⟨g1, g2⟩ := nodesD_ok h1 n (bs := bs)
    rw [rightsTo_succ]
    refine ⟨g1, by simp [h2], fun x hx => ?_⟩
    rcases List.mem_append.1 hx with hx | hx
    · exact h3 x hx
    · simp at hx; subst hx; exact g2
structure PlanM where
  ps : List Int
  ds : List Bool
  rights : List (List Int)
def planD (bs : List UInt8) (s : Src) : PlanM × Src :=
  (⟨(bldD bs s).ps, (bldD bs s).ds, (rightsTo bs (bldD bs s).ps.length (nx bs 4 (bldD bs s).src).2 (1 + (nx bs 4 (bldD bs s).src).1).toNat).1⟩, (rightsTo bs (bldD bs s).ps.length (nx bs 4 (bldD bs s).src).2 (1 + (nx bs 4 (bldD bs s).src).1).toNat).2)
structure planOk (p : PlanM) : Prop where
  lp : p.ps.length ≤ 10
  ld : p.ds.length = p.ps.length
  lr : 1 ≤ p.rights.length ∧ p.rights.length ≤ 4
  rs : ∀ x ∈ p.rights, x.length ≤ 11
  ps : okP p.ps
  some : 1 ≤ (doorsU p.ps p.ds 0).length
theorem planD_ok (bs : List UInt8) {s : Src} (h : SrcOk s) : SrcOk (planD bs s).2 ∧ planOk (planD bs s).1 := by
  have hn := bldN_in bs h
  obtain ⟨⟨b1, b2, b3, b4, b5, b6⟩, b7⟩ := bldD_ok bs h
  have a := nx_ok bs 4 b1
  have a3 := a.2.2.1 (by omega)
  obtain ⟨r1, r2, r3⟩ := rightsTo_ok a.2.2.2 (bldD bs s).ps.length (1 + (nx bs 4 (bldD bs s).src).1).toNat (bs := bs)
  refine ⟨r1, by show (bldD bs s).ps.length ≤ 10; omega, by show (bldD bs s).ds.length = (bldD bs s).ps.length; omega, ?_, fun x hx => ?_, b6, ?_⟩
  · show 1 ≤ (rightsTo _ _ _ _).1.length ∧ (rightsTo _ _ _ _).1.length ≤ 4
    rw [r2]; omega
  · have := r3 x hx; omega
  · show 1 ≤ (doorsU (bldD bs s).ps (bldD bs s).ds 0).length
    have hlt : (bldN bs s - 1).toNat < (bldD bs s).ds.length := by omega
    have hu := undF_root b6 (bldD bs s).ps.length ((bldN bs s - 1).toNat : Int) (by omega) (by omega) (by omega)
    have hp : ((bldD bs s).ds.getD (bldN bs s - 1).toNat false && undF (bldD bs s).ps (bldD bs s).ps.length ((bldN bs s - 1).toNat : Int) 0) = true := by rw [b7, hu]; rfl
    unfold doorsU
    generalize (bldD bs s).ps = ps at *
    generalize (bldD bs s).ds = ds at *
    generalize (bldN bs s - 1).toNat = i at *
    have key : ∀ n, i < n → 1 ≤ (flt (fun i => ds.getD i false && undF ps ps.length (i : Int) 0) n).length := by
      intro n
      induction n with
      | zero => intro h; omega
      | succ n ih =>
        intro h
        rw [flt_succ]
        by_cases e : i = n
        · subst e; rw [if_pos hp]; simp
        · have := ih (by omega)
          split
          · simp
          · exact this
    exact key _ hlt
def accRow (p : PlanM) (nodes : List Int) : List Int := (doorsU p.ps p.ds 0).map fun d => if mayE p.ps nodes d = true then 1 else 0
def accT (p : PlanM) : List (List Int) := p.rights.map (accRow p)
def trowTo (bs : List UInt8) (s : Src) : Nat → List Int × Src
  | 0 => ([], s)
  | k + 1 => ((trowTo bs s k).1 ++ [(pk bs [0, 1, 1] (trowTo bs s k).2).1], (pk bs [0, 1, 1] (trowTo bs s k).2).2)
theorem trowTo_succ (bs : List UInt8) (s : Src) (k : Nat) : trowTo bs s (k + 1) = ((trowTo bs s k).1 ++ [(pk bs [0, 1, 1] (trowTo bs s k).2).1], (pk bs [0, 1, 1] (trowTo bs s k).2).2) := rfl
theorem trowTo_ok {bs : List UInt8} {s : Src} (h : SrcOk s) : ∀ k, SrcOk (trowTo bs s k).2 ∧ (trowTo bs s k).1.length = k
  | 0 => ⟨h, rfl⟩
  | k + 1 => by
    obtain ⟨h1, h2⟩ := trowTo_ok h k (bs := bs)
    rw [trowTo_succ]
    exact ⟨pk_ok bs _ h1, by simp [h2]⟩
def ttabTo (bs : List UInt8) (c : Nat) (s : Src) : Nat → List (List Int) × Src
  | 0 => ([], s)
  | i + 1 => ((ttabTo bs c s i).1 ++ [(trowTo bs (ttabTo bs c s i).2 c).1], (trowTo bs (ttabTo bs c s i).2 c).2)
theorem ttabTo_succ (bs : List UInt8) (c : Nat) (s : Src) (i : Nat) : ttabTo bs c s (i + 1) = ((ttabTo bs c s i).1 ++ [(trowTo bs (ttabTo bs c s i).2 c).1], (trowTo bs (ttabTo bs c s i).2 c).2) := rfl
theorem ttabTo_ok {bs : List UInt8} {s : Src} (h : SrcOk s) (c : Nat) : ∀ i, SrcOk (ttabTo bs c s i).2 ∧ (ttabTo bs c s i).1.length = i ∧ ∀ x ∈ (ttabTo bs c s i).1, x.length = c
  | 0 => ⟨h, rfl, fun x hx => by cases hx⟩
  | i + 1 => by
    obtain ⟨h1, h2, h3⟩ := ttabTo_ok h c i (bs := bs)
    obtain ⟨g1, g2⟩ := trowTo_ok h1 c (bs := bs)
    rw [ttabTo_succ]
    refine ⟨g1, by simp [h2], fun x hx => ?_⟩
    rcases List.mem_append.1 hx with hx | hx
    · exact h3 x hx
    · simp at hx; subst hx; exact g2
def tabV (bs : List UInt8) (s : Src) : List (List Int) × Src :=
  if ((nx bs 3 s).1 == 0) = true then (accT (planD bs (nx bs 3 s).2).1, (planD bs (nx bs 3 s).2).2)
  else ttabTo bs (1 + (nx bs 5 (nx bs 4 (nx bs 3 s).2).2).1).toNat (nx bs 5 (nx bs 4 (nx bs 3 s).2).2).2 (1 + (nx bs 4 (nx bs 3 s).2).1).toNat
theorem flt_len' (p : Nat → Bool) (n : Nat) : (flt p n).length ≤ n := flt_len p n
theorem tabV_ok (bs : List UInt8) {s : Src} (h : SrcOk s) : SrcOk (tabV bs s).2 ∧ 1 ≤ (tabV bs s).1.length ∧ (tabV bs s).1.length ≤ 4 ∧ ∀ x ∈ (tabV bs s).1, 1 ≤ x.length ∧ x.length ≤ 10 := by
  have a := (nx_ok bs 3 h).2.2.2
  unfold tabV
  split
  · obtain ⟨p1, p2, p3, p4, p5, p6, p7⟩ := planD_ok bs a
    have hlen := p4
    refine ⟨p1, by simpa [accT] using p4.1, by simpa [accT] using p4.2, fun x hx => ?_⟩
    simp only [accT, List.mem_map] at hx
    obtain ⟨y, _, rfl⟩ := hx
    have hl := flt_len' (fun i => (planD bs (nx bs 3 s).2).1.ds.getD i false && undF (planD bs (nx bs 3 s).2).1.ps (planD bs (nx bs 3 s).2).1.ps.length (i : Int) 0) (planD bs (nx bs 3 s).2).1.ds.length
    simp only [accRow, List.length_map]
    unfold doorsU at p7 ⊢
    omega
  · have b := nx_ok bs 4 a
    have b3 := b.2.2.1 (by omega)
    have c := nx_ok bs 5 b.2.2.2
    have c3 := c.2.2.1 (by omega)
    obtain ⟨t1, t2, t3⟩ := ttabTo_ok c.2.2.2 (1 + (nx bs 5 (nx bs 4 (nx bs 3 s).2).2).1).toNat (1 + (nx bs 4 (nx bs 3 s).2).1).toNat (bs := bs)
    refine ⟨t1, by omega, by omega, fun x hx => ?_⟩
    have := t3 x hx
    omega
def padF (bs : List UInt8) : Nat → List (List Int) → Src → List (List Int) × Src
  | 0, t, s => (t, s)
  | k + 1, t, s => if decide ((t.length : Int) < 10 + (nx bs 2 s).1) = true then padF bs k (t ++ [t.getD 0 []]) (nx bs 2 s).2 else (t, (nx bs 2 s).2)
theorem padF_ok {bs : List UInt8} : ∀ (k : Nat) (t : List (List Int)) (s : Src), SrcOk s → 1 ≤ t.length → t.length ≤ 11 → (∀ x ∈ t, x.length ≤ 10) → SrcOk (padF bs k t s).2 ∧ (padF bs k t s).1.length ≤ 11 ∧ ∀ x ∈ (padF bs k t s).1, x.length ≤ 13
  | 0, t, s, h, _, h2, h3 => ⟨h, h2, fun x hx => by have := h3 x hx; omega⟩
  | k + 1, t, s, h, h1, h2, h3 => by
    have a := nx_ok bs 2 h
    have a3 := a.2.2.1 (by omega)
    simp only [padF]
    split
    · rename_i hlt
      have hlt := of_decide_eq_true hlt
      refine padF_ok k _ _ a.2.2.2 (by simp) (by simp; omega) fun x hx => ?_
      rcases List.mem_append.1 hx with hx | hx
      · exact h3 x hx
      · simp at hx; subst hx
        rw [List.getElem?_eq_getElem (by omega)]
        exact h3 _ (List.getElem_mem _)
    · exact ⟨a.2.2.2, h2, fun x hx => by have := h3 x hx; omega⟩
def tabW (bs : List UInt8) (t : List (List Int)) (s : Src) : List (List Int) × Src :=
  if ((nx bs 30 s).1 == 0) = true then (t.set 0 ((t.getD 0 []).set 0 (pk bs [-1, 2] (nx bs 30 s).2).1), (pk bs [-1, 2] (nx bs 30 s).2).2)
  else if ((nx bs 30 s).1 == 1) = true then (t ++ [[1]], (nx bs 30 s).2)
  else if ((nx bs 30 s).1 == 2) = true then padF bs (12 - t.length) t (nx bs 30 s).2
  else if ((nx bs 30 s).1 == 3) = true then ([List.replicate (12 + (nx bs 2 (nx bs 30 s).2).1).toNat 0], (nx bs 2 (nx bs 30 s).2).2)
  else if ((nx bs 30 s).1 == 4) = true then ([], (nx bs 30 s).2)
  else (t, (nx bs 30 s).2)
def tabD (bs : List UInt8) (s : Src) : List (List Int) × Src := tabW bs (tabV bs s).1 (tabV bs s).2
theorem tabD_ok (bs : List UInt8) {s : Src} (h : SrcOk s) : SrcOk (tabD bs s).2 ∧ (tabD bs s).1.length ≤ 11 ∧ ∀ x ∈ (tabD bs s).1, x.length ≤ 13 := by
  obtain ⟨h1, h2, h3, h4⟩ := tabV_ok bs h
  unfold tabD
  generalize (tabV bs s).1 = t at *
  generalize (tabV bs s).2 = s1 at *
  have a := nx_ok bs 30 h1
  have ht : ∀ x ∈ t, x.length ≤ 13 := fun x hx => by have := h4 x hx; omega
  unfold tabW
  split
  · refine ⟨pk_ok bs _ a.2.2.2, by simp; omega, fun x hx => ?_⟩
    rcases List.mem_or_eq_of_mem_set hx with hx | rfl
    · exact ht x hx
    · rw [List.length_set, List.getD_eq_getElem?_getD, List.getElem?_eq_getElem (by omega)]
      exact ht _ (List.getElem_mem _)
  split
  · refine ⟨a.2.2.2, by simp; omega, fun x hx => ?_⟩
    rcases List.mem_append.1 hx with hx | hx
    · exact ht x hx
    · simp at hx; subst hx; simp
  split
  · exact padF_ok _ t _ a.2.2.2 h2 (by omega) fun x hx => (h4 x hx).2
  split
  · have b := nx_ok bs 2 a.2.2.2
    have b3 := b.2.2.1 (by omega)
    refine ⟨b.2.2.2, by simp, fun x hx => ?_⟩
    simp at hx; subst hx; simp; omega
  split
  · exact ⟨a.2.2.2, by simp, fun x hx => by cases hx⟩
  · exact ⟨a.2.2.2, by show t.length ≤ 11; omega, ht⟩
end Go.Vc


set_option linter.unusedVariables false
set_option linter.unusedSimpArgs false
set_option linter.unnecessarySimpa false
namespace Go.Vc
open Go.Proofs
set_option maxRecDepth 100000
theorem c_big (bs : List UInt8) (h : bs.length ≤ 9223372036854775807) : Fn Tryz.prog 8 [eYs bs] true (· = eB (decide ((bs.length : Int) > 4096))) := by
  refine Fn.of_vcN 6 [.tmp 2] Tryz.func8 rfl rfl rfl rfl rfl (of_decide_eq_true rfl) ?_
  simp -dsimp -implicitDefEqProofs only [go_sem, ↓reduceIte]
  repeat' (with_reducible refine And.intro ?_ ?_)
  all_goals first | omega | (simp; done)
def seedAt (bs : List UInt8) : Nat → Int
  | 0 => 30011
  | i + 1 => (seedAt bs i * 67 + ((bs.getD i 0).toNat : Int)).tmod 2147483647
theorem seedAt_ok (bs : List UInt8) : ∀ i, 0 ≤ seedAt bs i ∧ seedAt bs i < 2147483647
  | 0 => by simp [seedAt]
  | i + 1 => by
    have h := seedAt_ok bs i
    exact tmod_in (by have := (bs.getD i 0).toNat_lt; omega) (by omega)
def src0 (bs : List UInt8) : Src := ⟨seedAt bs (min bs.length 64), 0⟩
theorem src0_ok (bs : List UInt8) : SrcOk (src0 bs) := seedAt_ok bs _
theorem seedAt_succ {bs : List UInt8} {i : Nat} (h : i < bs.length) : seedAt bs (i + 1) = (seedAt bs i * 67 + ((bs[i]).toNat : Int)).tmod 2147483647 := by
  rw [seedAt, List.getD_eq_getElem?_getD, List.getElem?_eq_getElem h]; rfl
end Go.Vc


set_option linter.unusedVariables false
set_option linter.unusedSimpArgs false
set_option linter.unnecessarySimpa false
namespace Go.Vc
open Go.Proofs
set_option maxRecDepth 100000
set_option maxHeartbeats 4000000
abbrev eBs (xs : List Bool) : AV := .arr ⟨1, false⟩ (xs.map eB)
abbrev eBd (ps : List Int) (ds : List Bool) : AV := .agg [eIs ps, eBs ds]
abbrev ePl (p : PlanM) : AV := .agg [eIs p.ps, eBs p.ds, eIss p.rights]
theorem tk {α β : Type} (f : α → β) (l : List α) (n : Nat) (h : l.length ≤ n) : (l.map f).take n = l.map f := List.take_of_length_le (by simpa using h)
theorem mapS {α β : Type} (f : α → β) (l : List α) (x : α) : (l ++ [x]).map f = l.map f ++ [f x] := by simp
theorem c_l09Valid (v : Nat) (bs : List UInt8) (s : Src) (h : SrcOk s) (hl : bs.length ≤ 4096) :
    FnMR Tryz.prog 215 [srcB v bs s] [.ptr 1000000000 v 0 0] (fun x io => x = eBd (bldD bs s).ps (bldD bs s).ds ∧ io = [srcB v bs (bldD bs s).src]) := by
  refine FnMR.of_vc 52 [.cell 2 170] Tryz.func215 rfl rfl rfl rfl rfl (of_decide_eq_true rfl) ?_
  have hn := bldN_in bs h
  have h9 := (nx_ok bs 9 h).2.2.2
  have q9 := fun v => c_l01Next v bs 9 s h hl
  have hok := bldTo_ok (bs := bs) (n := bldN bs s) h9
  have hNd : 2 + (nx bs 9 s).1 = bldN bs s := rfl
  unfold bldD
  generalize bldN bs s = n at *
  generalize nx bs 9 s = a at *
  simp -dsimp -implicitDefEqProofs only [go_sem, ↓reduceIte]
  (refine sCallT_io [1000000000] ?_; simp -dsimp -implicitDefEqProofs only [go_sem, ↓reduceIte]; refine sCallM_one (q9 _) ?_; simp -dsimp -implicitDefEqProofs only [go_sem, ↓reduceIte])
  ((repeat' (with_reducible refine And.intro ?_ ?_)); all_goals try (first | omega | (refine ⟨?_, ?_⟩ <;> omega) | (exact rfl)))
  rw [hNd]
  refine Later.up [0, 2, 3] [24, 25, 28, 29, 36, 41, 42, 47, 48] [12, 13, 14, 1000000000] (n - 1).toNat (fun _ => True) (fun j => [(7, eI (1 + (j : Int))), (4, .ref 12 0 0 (j + 1)), (5, .ref 13 0 0 (j + 1)), (6, .ref 14 0 0 (bldTo bs n a.2 j).gs.length)])
    (fun j => [(12, .row 0 ⟨1, false⟩ true ((bldTo bs n a.2 j).ps.map eI)), (13, .row 0 ⟨1, false⟩ true ((bldTo bs n a.2 j).ds.map eB)), (14, .row 0 ⟨1, false⟩ true ((bldTo bs n a.2 j).gs.map eI)), (1000000000, srcB v bs (bldTo bs n a.2 j).src)]) trivial ?_ rfl (fun j hj _ => ?_) (fun _ => ?_)
  · simp -dsimp -implicitDefEqProofs only [go_sem, ↓reduceIte, bldTo_zero]
    ((repeat' (with_reducible refine And.intro ?_ ?_)); all_goals try (first | omega | (refine ⟨?_, ?_⟩ <;> omega) | (exact rfl)))
    all_goals first | (simp; done) | trace_state
  · obtain ⟨b1, b2, b3, b4, b5, b6⟩ := hok j
    have hlt : decide ((1 : Int) + (j : Int) < n) = true := decide_eq_true (by omega)
    have hlast : ((1 : Int) + (j : Int) == n - 1) = lastB n (j + 1) := by
      unfold lastB
      rw [show (1 : Int) + (j : Int) = ((j + 1 : Nat) : Int) by omega]
    have e1 : (1 : Int) + (j : Int) = ((j + 1 : Nat) : Int) := by omega
    rw [bldTo_succ]
    unfold bldStep doorB
    generalize bldTo bs n a.2 j = z at *
    obtain ⟨ps, ds, gs, src⟩ := z
    simp only at b1 b2 b3 b4 b5 b6 ⊢
    have a2 := nx_lt bs b4.1 b1
    have a3 := nx_ok bs gs.length b1
    have qg := fun v => c_l01Next v bs gs.length src b1 hl
    have gg := get_some a2.1
    have hgd : gs.getD (nx bs gs.length src).1.toNat 0 = gs[(nx bs gs.length src).1.toNat]'a2.1 := by simp [List.getD_eq_getElem?_getD, a2.1]
    rw [hgd]
    generalize gs[(nx bs gs.length src).1.toNat]'a2.1 = g at *
    generalize nx bs gs.length src = c at *
    have q3 := fun v => c_l01Next v bs 3 c.2 a3.2.2.2 hl
    generalize nx bs 3 c.2 = d at *
    have tp := tk eI ps (j + 1) (by omega)
    have td := tk eB ds (j + 1) (by omega)
    have tg := tk eI gs gs.length (Nat.le_refl _)
    have ep := mapS eI ps g
    have eg := mapS eI gs ((j + 1 : Nat) : Int)
    simp -dsimp -implicitDefEqProofs only [pick_nil, pick_cons, look_nil, look_cons, dropB_nil, dropB_cons, inD_nil, inD_cons, inE_nil, inE_cons, or_t_l, or_f_l, Nat.reduceBEq, Nat.reduceDiv, Nat.reduceAdd, beq_self_eq_true, uq0, uq1, ↓reduceIte, Nat.reduceEqDiff, uq2, uq3]
    simp -dsimp -implicitDefEqProofs only [go_sem, ↓reduceIte, hlt]
    (refine sCallT_io [1000000000] ?_; simp -dsimp -implicitDefEqProofs only [go_sem, ↓reduceIte]; refine sCallM_one (qg _) ?_; simp -dsimp -implicitDefEqProofs only [go_sem, ↓reduceIte])
    ((repeat' (with_reducible refine And.intro ?_ ?_)); all_goals try (first | omega | (refine ⟨?_, ?_⟩ <;> omega) | (exact rfl)))
    simp -dsimp -implicitDefEqProofs only [go_sem, ↓reduceIte, gg]
    ((repeat' (with_reducible refine And.intro ?_ ?_)); all_goals try (first | omega | (refine ⟨?_, ?_⟩ <;> omega) | (exact rfl)))
    cases hL : lastB n (j + 1) with
    | true =>
      rw [hL] at hlast
      simp -dsimp -implicitDefEqProofs only [go_sem, ↓reduceIte, hlast]
      ((repeat' (with_reducible refine And.intro ?_ ?_)); all_goals try (first | omega | (refine ⟨?_, ?_⟩ <;> omega) | (exact rfl)))
      all_goals first | (simp [*]; done) | (simp [*]; omega) | trace_state
    | false =>
      rw [hL] at hlast
      simp -dsimp -implicitDefEqProofs only [go_sem, ↓reduceIte, hlast]
      (refine sCallT_io [1000000000] ?_; simp -dsimp -implicitDefEqProofs only [go_sem, ↓reduceIte]; refine sCallM_one (q3 _) ?_; simp -dsimp -implicitDefEqProofs only [go_sem, ↓reduceIte])
      cases hD : decide (d.1 > 0) with
      | true =>
        simp -dsimp -implicitDefEqProofs only [go_sem, ↓reduceIte, hlast, hD]
        ((repeat' (with_reducible refine And.intro ?_ ?_)); all_goals try (first | omega | (refine ⟨?_, ?_⟩ <;> omega) | (exact rfl)))
        all_goals first | (simp [*]; done) | (simp [*]; omega) | trace_state
      | false =>
        simp -dsimp -implicitDefEqProofs only [go_sem, ↓reduceIte, hlast, hD]
        ((repeat' (with_reducible refine And.intro ?_ ?_)); all_goals try (first | omega | (refine ⟨?_, ?_⟩ <;> omega) | (exact rfl)))
        all_goals first | (simp [*]; done) | (simp [*]; omega) | trace_state
  · obtain ⟨b1, b2, b3, b4, b5, b6⟩ := hok (n - 1).toNat
    have hlt : decide ((1 : Int) + ((n - 1).toNat : Int) < n) = false := decide_eq_false (by omega)
    generalize bldTo bs n a.2 (n - 1).toNat = z at *
    obtain ⟨ps, ds, gs, src⟩ := z
    simp only at b1 b2 b3 b4 b5 b6 ⊢
    have tp := tk eI ps ((n - 1).toNat + 1) (by omega)
    have td := tk eB ds ((n - 1).toNat + 1) (by omega)
    simp -dsimp -implicitDefEqProofs only [pick_nil, pick_cons, look_nil, look_cons, dropB_nil, dropB_cons, inD_nil, inD_cons, inE_nil, inE_cons, or_t_l, or_f_l, Nat.reduceBEq, Nat.reduceDiv, Nat.reduceAdd, beq_self_eq_true, uq0, uq1, ↓reduceIte, Nat.reduceEqDiff, uq2, uq3]
    simp -dsimp -implicitDefEqProofs only [go_sem, ↓reduceIte, hlt]
    ((repeat' (with_reducible refine And.intro ?_ ?_)); all_goals try (first | omega | (refine ⟨?_, ?_⟩ <;> omega) | (exact rfl)))
    all_goals first | (rw [tp, td]; done) | trace_state
theorem c_l09Under (ps : List Int) (ds : List Bool) (node other : Int) (hp : okP ps) (hl : ps.length ≤ 1000) (hn : node < ps.length) (hn0 : 0 ≤ node) : Fn Tryz.prog 269 [eBd ps ds, eI node, eI other] true (· = eB (undF ps ps.length node other)) := by
  refine Fn.of_vcN 17 [.tmp 6] Tryz.func269 rfl rfl rfl rfl rfl (of_decide_eq_true rfl) ?_
  generalize hR : undF ps ps.length node other = R
  simp -dsimp -implicitDefEqProofs only [go_sem, ↓reduceIte]
  refine Later.lp [2, 3] [] [] (fun x : Nat × Int => -1 ≤ x.2 ∧ x.2 < x.1 ∧ x.1 ≤ ps.length ∧ undF ps x.1 x.2 other = R) (fun x => [(1, eI x.2)]) (fun _ => []) (fun x => x.1) (ps.length, node) ⟨by omega, by omega, Nat.le_refl _, hR⟩ ?_ rfl (fun x hx => ?_)
  · simp -dsimp -implicitDefEqProofs only [go_sem, ↓reduceIte]
  · obtain ⟨k, nd⟩ := x
    obtain ⟨h1, h2, h3, h4⟩ := hx
    simp only at h1 h2 h3 h4 ⊢
    simp -dsimp -implicitDefEqProofs only [pick_nil, pick_cons, look_nil, look_cons, dropB_nil, dropB_cons, inD_nil, inD_cons, inE_nil, inE_cons, or_t_l, or_f_l, Nat.reduceBEq, Nat.reduceDiv, Nat.reduceAdd, beq_self_eq_true, uq0, uq1, ↓reduceIte, Nat.reduceEqDiff, uq2, uq3]
    by_cases h0 : nd < 0
    · have hge : decide (nd ≥ 0) = false := decide_eq_false (by omega)
      have hRf : R = false := by
        rw [← h4]
        cases k with
        | zero => rfl
        | succ k => simp only [undF]; rw [if_pos h0]
      rw [hRf]
      simp -dsimp -implicitDefEqProofs only [go_sem, ↓reduceIte, hge]
    · have hge : decide (nd ≥ 0) = true := decide_eq_true (by omega)
      obtain ⟨k, rfl⟩ : ∃ k', k = k' + 1 := ⟨k - 1, by omega⟩
      simp only [undF] at h4
      rw [if_neg h0] at h4
      have hlt : nd.toNat < ps.length := by omega
      have gp := get_some hlt
      have hok := hp nd.toNat hlt
      have e : ps.getD nd.toNat 0 = ps[nd.toNat] := by simp [List.getD_eq_getElem?_getD, hlt]
      rw [e] at h4 hok
      generalize ps[nd.toNat] = p at *
      cases ho : (nd == other) with
      | true =>
        rw [ho] at h4
        simp only [if_true] at h4
        rw [← h4]
        simp -dsimp -implicitDefEqProofs only [go_sem, ↓reduceIte, hge, ho]
      | false =>
        rw [ho] at h4
        simp only [uq0, if_false] at h4
        simp -dsimp -implicitDefEqProofs only [go_sem, ↓reduceIte, hge, ho, gp]
        refine ⟨⟨by omega, by omega⟩, (k, p), ⟨by omega, by omega, by omega, h4⟩, by simp, ?_⟩
        simp -dsimp -implicitDefEqProofs only [go_sem, ↓reduceIte]
theorem c_l09Doors (ps : List Int) (ds : List Bool) (node : Int) (hp : okP ps) (hl : ps.length ≤ 1000) (hd : ds.length = ps.length) : Fn Tryz.prog 213 [eBd ps ds, eI node] true (· = eIs (doorsU ps ds node)) := by
  refine Fn.of_vcN 31 [.tmp 4] Tryz.func213 rfl rfl rfl rfl rfl (of_decide_eq_true rfl) ?_
  unfold doorsU
  simp -dsimp -implicitDefEqProofs only [go_sem, ↓reduceIte]
  refine Later.up [1, 2] [11, 24, 28, 29] [7] ds.length (fun _ => True) (fun i => [(6, eI i), (5, .ref 7 0 0 (flt (fun i => ds.getD i false && undF ps ps.length (i : Int) node) i).length)]) (fun i => [(7, .row 0 ⟨1, false⟩ true ((flt (fun i => ds.getD i false && undF ps ps.length (i : Int) node) i).map eI))]) trivial ?_ rfl (fun i hi _ => ?_) (fun _ => ?_)
  · simp -dsimp -implicitDefEqProofs only [go_sem, ↓reduceIte, flt_zero]
  · have gi := get_some hi
    have li := lt_len hi
    have hq := c_l09Under ps ds (i : Int) node hp hl (by omega) (by omega)
    have hfl := flt_len (fun i => ds.getD i false && undF ps ps.length (i : Int) node) i
    have hgd : ds.getD i false = ds[i] := by simp [List.getD_eq_getElem?_getD, hi]
    rw [flt_succ]
    simp only [hgd]
    generalize flt (fun i => ds.getD i false && undF ps ps.length (i : Int) node) i = F at *
    generalize ds[i] = d at *
    generalize undF ps ps.length (i : Int) node = ub at *
    have tF := tk eI F F.length (Nat.le_refl _)
    simp -dsimp -implicitDefEqProofs only [pick_nil, pick_cons, look_nil, look_cons, dropB_nil, dropB_cons, inD_nil, inD_cons, inE_nil, inE_cons, or_t_l, or_f_l, Nat.reduceBEq, Nat.reduceDiv, Nat.reduceAdd, beq_self_eq_true, uq0, uq1, ↓reduceIte, Nat.reduceEqDiff, uq2, uq3]
    cases d with
    | false =>
      simp -dsimp -implicitDefEqProofs only [go_sem, ↓reduceIte, li, gi]
      ((repeat' (with_reducible refine And.intro ?_ ?_)); all_goals try (first | omega | (refine ⟨?_, ?_⟩ <;> omega) | (exact rfl)))
      all_goals first | (simp [*]; done) | trace_state
    | true =>
      simp -dsimp -implicitDefEqProofs only [go_sem, ↓reduceIte, li, gi]
      ((repeat' (with_reducible refine And.intro ?_ ?_)); all_goals try (first | omega | (refine ⟨?_, ?_⟩ <;> omega) | (exact rfl)))
      refine sCallT_one hq ?_
      cases ub with
      | false =>
        simp -dsimp -implicitDefEqProofs only [go_sem, ↓reduceIte]
        ((repeat' (with_reducible refine And.intro ?_ ?_)); all_goals try (first | omega | (refine ⟨?_, ?_⟩ <;> omega) | (exact rfl)))
        all_goals first | (simp [*]; done) | trace_state
      | true =>
        simp -dsimp -implicitDefEqProofs only [go_sem, ↓reduceIte]
        ((repeat' (with_reducible refine And.intro ?_ ?_)); all_goals try (first | omega | (refine ⟨?_, ?_⟩ <;> omega) | (exact rfl)))
        all_goals first | (simp [*]; done) | trace_state
  · have hfl := flt_len (fun i => ds.getD i false && undF ps ps.length (i : Int) node) ds.length
    generalize flt (fun i => ds.getD i false && undF ps ps.length (i : Int) node) ds.length = F at *
    have tF := tk eI F F.length (Nat.le_refl _)
    simp -dsimp -implicitDefEqProofs only [pick_nil, pick_cons, look_nil, look_cons, dropB_nil, dropB_cons, inD_nil, inD_cons, inE_nil, inE_cons, or_t_l, or_f_l, Nat.reduceBEq, Nat.reduceDiv, Nat.reduceAdd, beq_self_eq_true, uq0, uq1, ↓reduceIte, Nat.reduceEqDiff, uq2, uq3]
    simp -dsimp -implicitDefEqProofs only [go_sem, ↓reduceIte, nlt_len]
    ((repeat' (with_reducible refine And.intro ?_ ?_)); all_goals try (first | omega | (refine ⟨?_, ?_⟩ <;> omega) | (exact rfl)))
    all_goals first | (rw [tF]; done) | (simp; done) | trace_state
theorem c_l10May (ps : List Int) (ds : List Bool) (nodes : List Int) (door : Int) (hp : okP ps) (hl : ps.length ≤ 1000) (h0 : 0 ≤ door) (h1 : door < ps.length) (hn : nodes.length ≤ 1000) : Fn Tryz.prog 214 [eBd ps ds, eIs nodes, eI door] true (· = eB (mayE ps nodes door)) := by
  refine Fn.of_vcN 21 [.tmp 6] Tryz.func214 rfl rfl rfl rfl rfl (of_decide_eq_true rfl) ?_
  simp -dsimp -implicitDefEqProofs only [go_sem, ↓reduceIte]
  refine Later.up [1, 2, 3] [10, 20] [] nodes.length (fun i => ((nodes.take i).any fun x => undF ps ps.length door x) = false) (fun i => [(7, eI i)]) (fun _ => []) (by simp) ?_ rfl (fun i hi hI => ?_) (fun hI => ?_)
  · simp -dsimp -implicitDefEqProofs only [go_sem, ↓reduceIte]
  · have gi := get_some hi
    have li := lt_len hi
    have hq := c_l09Under ps ds door nodes[i] hp hl h1 h0
    have yes : undF ps ps.length door nodes[i] = true → mayE ps nodes door = true := fun h => List.any_eq_true.2 ⟨_, List.getElem_mem hi, h⟩
    have no : undF ps ps.length door nodes[i] = false → ((nodes.take (i + 1)).any fun x => undF ps ps.length door x) = false := fun h => by rw [List.take_succ_eq_append_getElem hi, List.any_append, hI]; simp [h]
    generalize nodes[i] = x at *
    generalize undF ps ps.length door x = ub at *
    simp -dsimp -implicitDefEqProofs only [pick_nil, pick_cons, look_nil, look_cons, dropB_nil, dropB_cons, inD_nil, inD_cons, inE_nil, inE_cons, or_t_l, or_f_l, Nat.reduceBEq, Nat.reduceDiv, Nat.reduceAdd, beq_self_eq_true, uq0, uq1, ↓reduceIte, Nat.reduceEqDiff, uq2, uq3]
    simp -dsimp -implicitDefEqProofs only [go_sem, ↓reduceIte, li]
    refine Later.draw mixed rfl ?_
    simp -dsimp -implicitDefEqProofs only [go_sem, ↓reduceIte, gi]
    ((repeat' (with_reducible refine And.intro ?_ ?_)); all_goals try (first | omega | (refine ⟨?_, ?_⟩ <;> omega) | (exact rfl)))
    refine sCallX_one hq ?_
    cases ub with
    | false =>
      simp -dsimp -implicitDefEqProofs only [go_sem, ↓reduceIte]
      exact ⟨by exact rfl, ⟨by omega, by omega⟩, no rfl, rfl⟩
    | true =>
      rw [yes rfl]
      simp -dsimp -implicitDefEqProofs only [go_sem, ↓reduceIte]
      ((repeat' (with_reducible refine And.intro ?_ ?_)); all_goals try (first | omega | (refine ⟨?_, ?_⟩ <;> omega) | (exact rfl)))
  · rw [List.take_length] at hI
    rw [show mayE ps nodes door = false from hI]
    simp -dsimp -implicitDefEqProofs only [pick_nil, pick_cons, look_nil, look_cons, dropB_nil, dropB_cons, inD_nil, inD_cons, inE_nil, inE_cons, or_t_l, or_f_l, Nat.reduceBEq, Nat.reduceDiv, Nat.reduceAdd, beq_self_eq_true, uq0, uq1, ↓reduceIte, Nat.reduceEqDiff, uq2, uq3]
    simp -dsimp -implicitDefEqProofs only [go_sem, ↓reduceIte, nlt_len]
theorem c_l10DrawNodes (v : Nat) (bs : List UInt8) (s : Src) (ps : List Int) (ds : List Bool) (h : SrcOk s) (hl : bs.length ≤ 4096) (hp : ps.length ≤ 1000) :
    FnMR Tryz.prog 216 [srcB v bs s] [.ptr 1000000000 v 0 0, eBd ps ds] (fun x io => x = eIs (nodesD bs ps.length s).1 ∧ io = [srcB v bs (nodesD bs ps.length s).2]) := by
  refine FnMR.of_vc 34 [.tmp 4] Tryz.func216 rfl rfl rfl rfl rfl (of_decide_eq_true rfl) ?_
  have hok := fun i => nodesTo_ok (bs := bs) h i
  simp -dsimp -implicitDefEqProofs only [go_sem, ↓reduceIte]
  refine Later.up [0, 3] [11, 16, 20, 21] [7, 1000000000] ps.length (fun _ => True) (fun i => [(6, eI i), (5, .ref 7 0 0 (nodesTo bs s i).1.length)]) (fun i => [(7, .row 0 ⟨1, false⟩ true ((nodesTo bs s i).1.map eI)), (1000000000, srcB v bs (nodesTo bs s i).2)]) trivial ?_ rfl (fun i hi _ => ?_) (fun _ => ?_)
  · simp -dsimp -implicitDefEqProofs only [go_sem, ↓reduceIte, nodesTo]
    ((repeat' (with_reducible refine And.intro ?_ ?_)); all_goals try (first | omega | (refine ⟨?_, ?_⟩ <;> omega) | (exact rfl)))
  · obtain ⟨o1, o2⟩ := hok i
    have li := lt_len hi
    rw [nodesTo_succ]
    have q4 := fun v => c_l01Next v bs 4 (nodesTo bs s i).2 o1 hl
    generalize nodesTo bs s i = z at *
    generalize nx bs 4 z.2 = a at *
    have tz := tk eI z.1 z.1.length (Nat.le_refl _)
    simp -dsimp -implicitDefEqProofs only [pick_nil, pick_cons, look_nil, look_cons, dropB_nil, dropB_cons, inD_nil, inD_cons, inE_nil, inE_cons, or_t_l, or_f_l, Nat.reduceBEq, Nat.reduceDiv, Nat.reduceAdd, beq_self_eq_true, uq0, uq1, ↓reduceIte, Nat.reduceEqDiff, uq2, uq3]
    simp -dsimp -implicitDefEqProofs only [go_sem, ↓reduceIte, li]
    (refine sCallT_io [1000000000] ?_; simp -dsimp -implicitDefEqProofs only [go_sem, ↓reduceIte]; refine sCallM_one (q4 _) ?_; simp -dsimp -implicitDefEqProofs only [go_sem, ↓reduceIte])
    cases hz : (a.1 == 0) with
    | true =>
      simp -dsimp -implicitDefEqProofs only [go_sem, ↓reduceIte, hz]
      ((repeat' (with_reducible refine And.intro ?_ ?_)); all_goals try (first | omega | (refine ⟨?_, ?_⟩ <;> omega) | (exact rfl)))
      all_goals first | (simp [*]; done) | trace_state
    | false =>
      simp -dsimp -implicitDefEqProofs only [go_sem, ↓reduceIte, hz]
      ((repeat' (with_reducible refine And.intro ?_ ?_)); all_goals try (first | omega | (refine ⟨?_, ?_⟩ <;> omega) | (exact rfl)))
      all_goals first | (simp [*]; done) | trace_state
  · obtain ⟨o1, o2⟩ := hok ps.length
    unfold nodesD
    generalize nodesTo bs s ps.length = z at *
    have qn := fun v => c_l01Next v bs ps.length z.2 o1 hl
    have tz := tk eI z.1 z.1.length (Nat.le_refl _)
    cases hz : ((z.1.length : Int) == 0) with
    | true =>
      have hz0 : z.1 = [] := by
        have := beq_iff_eq.1 hz
        exact List.eq_nil_of_length_eq_zero (by omega)
      obtain ⟨z1, z2⟩ := z
      simp only at hz0
      subst hz0
      simp only [if_true]
      simp -dsimp -implicitDefEqProofs only [pick_nil, pick_cons, look_nil, look_cons, dropB_nil, dropB_cons, inD_nil, inD_cons, inE_nil, inE_cons, or_t_l, or_f_l, Nat.reduceBEq, Nat.reduceDiv, Nat.reduceAdd, beq_self_eq_true, uq0, uq1, ↓reduceIte, Nat.reduceEqDiff, uq2, uq3]
      simp -dsimp -implicitDefEqProofs only [go_sem, ↓reduceIte, nlt_len, hz]
      (refine sCallT_io [1000000000] ?_; simp -dsimp -implicitDefEqProofs only [go_sem, ↓reduceIte]; refine sCallM_one (qn _) ?_; simp -dsimp -implicitDefEqProofs only [go_sem, ↓reduceIte])
      ((repeat' (with_reducible refine And.intro ?_ ?_)); all_goals try (first | omega | (refine ⟨?_, ?_⟩ <;> omega) | (exact rfl)))
      all_goals first | (simp [*]; done) | trace_state
    | false =>
      simp only [uq0, if_false]
      simp -dsimp -implicitDefEqProofs only [pick_nil, pick_cons, look_nil, look_cons, dropB_nil, dropB_cons, inD_nil, inD_cons, inE_nil, inE_cons, or_t_l, or_f_l, Nat.reduceBEq, Nat.reduceDiv, Nat.reduceAdd, beq_self_eq_true, uq0, uq1, ↓reduceIte, Nat.reduceEqDiff, uq2, uq3]
      simp -dsimp -implicitDefEqProofs only [go_sem, ↓reduceIte, nlt_len, hz]
      ((repeat' (with_reducible refine And.intro ?_ ?_)); all_goals try (first | omega | (refine ⟨?_, ?_⟩ <;> omega) | (exact rfl)))
      all_goals first | (rw [tz]; done) | (simp [*]; done) | trace_state
theorem c_l10Valid (v : Nat) (bs : List UInt8) (s : Src) (h : SrcOk s) (hl : bs.length ≤ 4096) :
    FnMR Tryz.prog 159 [srcB v bs s] [.ptr 1000000000 v 0 0] (fun x io => x = ePl (planD bs s).1 ∧ io = [srcB v bs (planD bs s).2]) := by
  refine FnMR.of_vc 25 [.cell 2 172] Tryz.func159 rfl rfl rfl rfl rfl (of_decide_eq_true rfl) ?_
  have qb := fun v => c_l09Valid v bs s h hl
  have hn := bldN_in bs h
  obtain ⟨⟨b1, b2, b3, b4, b5, b6⟩, _⟩ := bldD_ok bs h
  unfold planD
  generalize bldD bs s = B at *
  obtain ⟨ps, ds, gs, src⟩ := B
  simp only at b1 b2 b3 qb ⊢
  have q4 := fun v => c_l01Next v bs 4 src b1 hl
  have a := nx_ok bs 4 b1
  have a3 := a.2.2.1 (by omega)
  have hok := fun i => rightsTo_ok (bs := bs) a.2.2.2 ps.length i
  generalize nx bs 4 src = c at *
  simp -dsimp -implicitDefEqProofs only [go_sem, ↓reduceIte]
  refine sCallT_ioR [1000000000] ?_
  simp -dsimp -implicitDefEqProofs only [go_sem, ↓reduceIte]
  refine sCallMR_any (qb _) ?_
  rintro _ _ ⟨rfl, rfl⟩
  simp -dsimp -implicitDefEqProofs only [go_sem, ↓reduceIte]
  (refine sCallT_io [1000000000] ?_; simp -dsimp -implicitDefEqProofs only [go_sem, ↓reduceIte]; refine sCallM_one (q4 _) ?_; simp -dsimp -implicitDefEqProofs only [go_sem, ↓reduceIte])
  ((repeat' (with_reducible refine And.intro ?_ ?_)); all_goals try (first | omega | (refine ⟨?_, ?_⟩ <;> omega) | (exact rfl)))
  refine Later.up [0, 2, 3] [19, 20, 21] [8, 1000000000] (1 + c.1).toNat (fun _ => True) (fun i => [(5, eI (1 + c.1 - (i : Int))), (4, .ref 8 0 0 i)]) (fun i => [(8, .row 0 ⟨1, false⟩ (i == 0) ((rightsTo bs ps.length c.2 i).1.map eIs)), (1000000000, srcB v bs (rightsTo bs ps.length c.2 i).2)]) trivial ?_ rfl (fun i hi _ => ?_) (fun _ => ?_)
  · simp -dsimp -implicitDefEqProofs only [go_sem, ↓reduceIte, rightsTo]
    ((repeat' (with_reducible refine And.intro ?_ ?_)); all_goals try (first | omega | (refine ⟨?_, ?_⟩ <;> omega) | (exact rfl)))
    all_goals first | (simp; done) | trace_state
  · obtain ⟨o1, o2, o3⟩ := hok i
    have hgt : decide (1 + c.1 - (i : Int) > 0) = true := decide_eq_true (by omega)
    rw [rightsTo_succ]
    generalize rightsTo bs ps.length c.2 i = R at *
    have qd := fun v => c_l10DrawNodes v bs R.2 ps ds o1 hl (by omega)
    generalize nodesD bs ps.length R.2 = N at *
    have tR := tk eIs R.1 i (by omega)
    have e0 : (i + 1 == 0) = false := rfl
    have e2 := mapS eIs R.1 N.1
    simp -dsimp -implicitDefEqProofs only [pick_nil, pick_cons, look_nil, look_cons, dropB_nil, dropB_cons, inD_nil, inD_cons, inE_nil, inE_cons, or_t_l, or_f_l, Nat.reduceBEq, Nat.reduceDiv, Nat.reduceAdd, beq_self_eq_true, uq0, uq1, ↓reduceIte, Nat.reduceEqDiff, uq2, uq3]
    simp -dsimp -implicitDefEqProofs only [go_sem, ↓reduceIte, hgt]
    refine sCallT_ioR [1000000000] ?_
    simp -dsimp -implicitDefEqProofs only [go_sem, ↓reduceIte]
    refine sCallMR_any (qd _) ?_
    rintro _ _ ⟨rfl, rfl⟩
    simp -dsimp -implicitDefEqProofs only [go_sem, ↓reduceIte]
    refine .inr ⟨by omega, by omega, (by cases i with | zero => exact .inr rfl | succ i => exact .inl rfl), ⟨by omega, by omega⟩, ?_⟩
    rw [e0, e2]
    simp -dsimp -implicitDefEqProofs only [go_sem, ↓reduceIte, tR]
    ((repeat' (with_reducible refine And.intro ?_ ?_)); all_goals try (first | omega | (refine ⟨?_, ?_⟩ <;> omega) | (exact rfl)))
    all_goals first | (congr 1; omega) | (simp; omega) | trace_state
  · obtain ⟨o1, o2, o3⟩ := hok (1 + c.1).toNat
    have hgt : decide (1 + c.1 - (((1 + c.1).toNat : Nat) : Int) > 0) = false := decide_eq_false (by omega)
    generalize rightsTo bs ps.length c.2 (1 + c.1).toNat = R at *
    have tR := tk eIs R.1 (1 + c.1).toNat (by omega)
    simp -dsimp -implicitDefEqProofs only [pick_nil, pick_cons, look_nil, look_cons, dropB_nil, dropB_cons, inD_nil, inD_cons, inE_nil, inE_cons, or_t_l, or_f_l, Nat.reduceBEq, Nat.reduceDiv, Nat.reduceAdd, beq_self_eq_true, uq0, uq1, ↓reduceIte, Nat.reduceEqDiff, uq2, uq3]
    simp -dsimp -implicitDefEqProofs only [go_sem, ↓reduceIte, hgt]
    ((repeat' (with_reducible refine And.intro ?_ ?_)); all_goals try (first | omega | (refine ⟨?_, ?_⟩ <;> omega) | (exact rfl)))
    all_goals first | (rw [tR]; done) | (simp [*]; done) | trace_state
theorem c_l10Access (p : PlanM) (hp : planOk p) : Fn Tryz.prog 158 [ePl p] true (· = eIss (accT p)) := by
  obtain ⟨h1, h2, h3, h4, h5, h6⟩ := hp
  obtain ⟨ps, ds, rights⟩ := p
  simp only at h1 h2 h3 h4 h5 h6
  have hq := c_l09Doors ps ds 0 h5 (by omega) h2
  have hmem : ∀ d ∈ doorsU ps ds 0, 0 ≤ d ∧ d < ps.length := fun d hd => by
    unfold doorsU at hd
    obtain ⟨j, hj, rfl, _⟩ := flt_mem hd
    omega
  have hlen : (doorsU ps ds 0).length ≤ 10 := by
    have := flt_len (fun i => ds.getD i false && undF ps ps.length (i : Int) 0) ds.length
    unfold doorsU; omega
  have hacc : ∀ x, accRow ⟨ps, ds, rights⟩ x = (doorsU ps ds 0).map fun d => if mayE ps x d = true then 1 else 0 := fun _ => rfl
  have haccT : accT ⟨ps, ds, rights⟩ = rights.map (accRow ⟨ps, ds, rights⟩) := rfl
  rw [haccT]
  clear haccT
  refine Fn.of_vcN 49 [.tmp 2] Tryz.func158 rfl rfl rfl rfl rfl (of_decide_eq_true rfl) ?_
  generalize doorsU ps ds 0 = D at *
  simp -dsimp -implicitDefEqProofs only [go_sem, ↓reduceIte]
  refine sCallT_one hq ?_
  simp -dsimp -implicitDefEqProofs only [go_sem, ↓reduceIte]
  refine Later.upP [1, 3] [15, 19, 22, 37, 39, 40, 42, 43, 46, 47] [11, 19] rights.length (fun _ => True) (fun k => [(5, eI k), (4, .ref 11 0 0 k)]) (fun k => [(11, .row 0 ⟨1, false⟩ true (((rights.take k).map (accRow ⟨ps, ds, rights⟩)).map eIs))]) trivial (.here ?_) rfl (fun k hk _ => ?_) (fun _ => ?_)
  · simp -dsimp -implicitDefEqProofs only [go_sem, ↓reduceIte, List.take_zero, List.map_nil]
    ((repeat' (with_reducible refine And.intro ?_ ?_)); all_goals try (first | omega | (refine ⟨?_, ?_⟩ <;> omega) | (exact rfl)))
  · refine Later.vc rfl ?_
    have gk := get_some hk
    have lk := lt_len hk
    have ht : (rights.take (k + 1)).map (accRow ⟨ps, ds, rights⟩) = (rights.take k).map (accRow ⟨ps, ds, rights⟩) ++ [accRow ⟨ps, ds, rights⟩ rights[k]] := by rw [List.take_succ_eq_append_getElem hk, List.map_append]; rfl
    have hln : ((rights.take k).map (accRow ⟨ps, ds, rights⟩)).length = k := by simp; omega
    have hrl := h4 _ (List.getElem_mem hk)
    rw [ht, hacc rights[k]]
    clear ht
    generalize (rights.take k).map (accRow ⟨ps, ds, rights⟩) = F at *
    generalize rights[k] = nodes at *
    have tF := tk eIs F k (by omega)
    simp -dsimp -implicitDefEqProofs only [pick_nil, pick_cons, look_nil, look_cons, dropB_nil, dropB_cons, inD_nil, inD_cons, inE_nil, inE_cons, or_t_l, or_f_l, Nat.reduceBEq, Nat.reduceDiv, Nat.reduceAdd, beq_self_eq_true, uq0, uq1, ↓reduceIte, Nat.reduceEqDiff, uq2, uq3]
    simp -dsimp -implicitDefEqProofs only [go_sem, ↓reduceIte, lk]
    refine Later.upP [1, 3, 4, 5] [22, 37, 39, 40, 42, 43] [19] D.length (fun _ => True) (fun i => [(7, eI i), (6, .ref 19 0 0 i)]) (fun i => [(19, .row 0 ⟨1, false⟩ true (((D.take i).map fun d => if mayE ps nodes d = true then 1 else 0).map eI))]) trivial (.here ?_) rfl (fun i hi _ => ?_) (fun _ => ?_)
    · simp -dsimp -implicitDefEqProofs only [go_sem, ↓reduceIte, List.take_zero, List.map_nil]
      ((repeat' (with_reducible refine And.intro ?_ ?_)); all_goals try (first | omega | (refine ⟨?_, ?_⟩ <;> omega) | (exact rfl)))
    · refine Later.vc rfl ?_
      have gi := get_some hi
      have li := lt_len hi
      have hd := hmem _ (List.getElem_mem hi)
      have hm := c_l10May ps ds nodes D[i] h5 (by omega) hd.1 hd.2 (by omega)
      have ht : (D.take (i + 1)).map (fun d => if mayE ps nodes d = true then (1 : Int) else 0) = (D.take i).map (fun d => if mayE ps nodes d = true then (1 : Int) else 0) ++ [if mayE ps nodes D[i] = true then 1 else 0] := by rw [List.take_succ_eq_append_getElem hi, List.map_append]; rfl
      have hln2 : ((D.take i).map fun d => if mayE ps nodes d = true then (1 : Int) else 0).length = i := by simp; omega
      rw [ht]
      clear ht
      generalize ((D.take i).map fun d => if mayE ps nodes d = true then (1 : Int) else 0) = G at *
      generalize D[i] = d at *
      generalize mayE ps nodes d = mb at *
      have tG := tk eI G i (by omega)
      simp -dsimp -implicitDefEqProofs only [pick_nil, pick_cons, look_nil, look_cons, dropB_nil, dropB_cons, inD_nil, inD_cons, inE_nil, inE_cons, or_t_l, or_f_l, Nat.reduceBEq, Nat.reduceDiv, Nat.reduceAdd, beq_self_eq_true, uq0, uq1, ↓reduceIte, Nat.reduceEqDiff, uq2, uq3]
      simp -dsimp -implicitDefEqProofs only [go_sem, ↓reduceIte, li]
      refine Later.draw mixed rfl ?_
      simp -dsimp -implicitDefEqProofs only [go_sem, ↓reduceIte, gi, gk]
      ((repeat' (with_reducible refine And.intro ?_ ?_)); all_goals try (first | omega | (refine ⟨?_, ?_⟩ <;> omega) | (exact rfl)))
      refine sCallX_one hm ?_
      cases mb with
      | true =>
        simp -dsimp -implicitDefEqProofs only [go_sem, ↓reduceIte, tG]
        ((repeat' (with_reducible refine And.intro ?_ ?_)); all_goals try (first | omega | (refine ⟨?_, ?_⟩ <;> omega) | (exact rfl)))
        all_goals first | (refine .here ?_; simp -dsimp -implicitDefEqProofs only [go_sem, ↓reduceIte, tG]; ((repeat' (with_reducible refine And.intro ?_ ?_)); all_goals try (first | omega | (refine ⟨?_, ?_⟩ <;> omega) | (exact rfl))); all_goals first | (simp; done) | trace_state) | trace_state
      | false =>
        simp -dsimp -implicitDefEqProofs only [go_sem, ↓reduceIte, tG]
        ((repeat' (with_reducible refine And.intro ?_ ?_)); all_goals try (first | omega | (refine ⟨?_, ?_⟩ <;> omega) | (exact rfl)))
        all_goals first | (refine .here ?_; simp -dsimp -implicitDefEqProofs only [go_sem, ↓reduceIte, tG]; ((repeat' (with_reducible refine And.intro ?_ ?_)); all_goals try (first | omega | (refine ⟨?_, ?_⟩ <;> omega) | (exact rfl))); all_goals first | (simp; done) | trace_state) | trace_state
    · rw [List.take_length]
      have hln2 : (D.map fun d => if mayE ps nodes d = true then (1 : Int) else 0).length = D.length := by simp
      generalize (D.map fun d => if mayE ps nodes d = true then (1 : Int) else 0) = G at *
      refine Later.known 6 19 0 D.length ⟨1, false⟩ _ rfl (by decide) rfl (by simp [hln2]) h6 (by decide) fun u => ?_
      refine Later.vc rfl ?_
      have e2 : (F.map eIs ++ [AV.val u]).set k (.arr ⟨1, false⟩ (G.map eI)) = (F ++ [G]).map eIs := by
        rw [List.set_append_right _ _ (by simp [hln])]
        simp [hln, eIs]
      simp -dsimp -implicitDefEqProofs only [pick_nil, pick_cons, look_nil, look_cons, dropB_nil, dropB_cons, inD_nil, inD_cons, inE_nil, inE_cons, or_t_l, or_f_l, Nat.reduceBEq, Nat.reduceDiv, Nat.reduceAdd, beq_self_eq_true, uq0, uq1, ↓reduceIte, Nat.reduceEqDiff, uq2, uq3]
      simp -dsimp -implicitDefEqProofs only [go_sem, ↓reduceIte, nlt_len, tF]
      ((repeat' (with_reducible refine And.intro ?_ ?_)); all_goals try (first | omega | (refine ⟨?_, ?_⟩ <;> omega) | (exact rfl)))
      all_goals first
        | (refine RefP.back 11 1 k 19 0 _ _ _ u (by decide) rfl (by simp [hln]) rfl (.here ?_)
           rw [e2]
           simp -dsimp -implicitDefEqProofs only [go_sem, ↓reduceIte]
           ((repeat' (with_reducible refine And.intro ?_ ?_)); all_goals try (first | omega | (refine ⟨?_, ?_⟩ <;> omega) | (exact rfl)))
           all_goals trace_state)
        | trace_state
  · rw [List.take_length]
    have hln : (rights.map (accRow ⟨ps, ds, rights⟩)).length = rights.length := by simp
    generalize rights.map (accRow ⟨ps, ds, rights⟩) = F at *
    have tF := tk eIs F rights.length (by omega)
    refine Later.vc rfl ?_
    simp -dsimp -implicitDefEqProofs only [pick_nil, pick_cons, look_nil, look_cons, dropB_nil, dropB_cons, inD_nil, inD_cons, inE_nil, inE_cons, or_t_l, or_f_l, Nat.reduceBEq, Nat.reduceDiv, Nat.reduceAdd, beq_self_eq_true, uq0, uq1, ↓reduceIte, Nat.reduceEqDiff, uq2, uq3]
    simp -dsimp -implicitDefEqProofs only [go_sem, ↓reduceIte, nlt_len]
    ((repeat' (with_reducible refine And.intro ?_ ?_)); all_goals try (first | omega | (refine ⟨?_, ?_⟩ <;> omega) | (exact rfl)))
    all_goals first | (rw [tF]; done) | (simp; done) | trace_state
end Go.Vc


set_option linter.unusedVariables false
set_option linter.unusedSimpArgs false
set_option linter.unnecessarySimpa false
namespace Go.Vc
open Go.Proofs
set_option maxRecDepth 100000
set_option maxHeartbeats 4000000
theorem c_l11Valid (v : Nat) (bs : List UInt8) (s : Src) (h : SrcOk s) (hl : bs.length ≤ 4096) :
    FnM Tryz.prog 129 [srcB v bs s] [.ptr 1000000000 v 0 0] (fun x io => x = eIss (tabV bs s).1 ∧ io = [srcB v bs (tabV bs s).2]) := by
  refine FnM.of_vcN 44 [.tmp 2] Tryz.func129 rfl rfl rfl rfl rfl (of_decide_eq_true rfl) ?_
  have q3 := fun v => c_l01Next v bs 3 s h hl
  have a := (nx_ok bs 3 h).2.2.2
  obtain ⟨RR, hR⟩ : ∃ RR, tabV bs s = RR := ⟨_, rfl⟩
  rw [hR]
  unfold tabV at hR
  generalize nx bs 3 s = n3 at *
  simp -dsimp -implicitDefEqProofs only [go_sem, ↓reduceIte]
  (refine sCallT_io [1000000000] ?_; simp -dsimp -implicitDefEqProofs only [go_sem, ↓reduceIte]; refine sCallM_one (q3 _) ?_; simp -dsimp -implicitDefEqProofs only [go_sem, ↓reduceIte])
  cases h0 : (n3.1 == 0) with
  | true =>
    have qv := fun v => c_l10Valid v bs n3.2 a hl
    have hp := (planD_ok bs a).2
    rw [h0, if_pos rfl] at hR
    subst hR
    generalize planD bs n3.2 = p at *
    have qa := c_l10Access p.1 hp
    simp -dsimp -implicitDefEqProofs only [go_sem, ↓reduceIte, h0]
    ((repeat' (with_reducible refine And.intro ?_ ?_)); all_goals try (first | omega | (refine ⟨?_, ?_⟩ <;> omega) | (exact rfl)))
    refine sCallT_ioR [1000000000] ?_
    simp -dsimp -implicitDefEqProofs only [go_sem, ↓reduceIte]
    refine sCallMR_any (qv _) ?_
    rintro _ _ ⟨rfl, rfl⟩
    simp -dsimp -implicitDefEqProofs only [go_sem, ↓reduceIte]
    refine sCallT_one qa ?_
    simp -dsimp -implicitDefEqProofs only [go_sem, ↓reduceIte]
    ((repeat' (with_reducible refine And.intro ?_ ?_)); all_goals try (first | omega | (refine ⟨?_, ?_⟩ <;> omega) | (exact rfl)))
    all_goals first | (simp; done) | trace_state
  | false =>
    have q4 := fun v => c_l01Next v bs 4 n3.2 a hl
    have b := nx_ok bs 4 a
    have b3 := b.2.2.1 (by omega)
    rw [h0, if_neg (by simp)] at hR
    subst hR
    generalize nx bs 4 n3.2 = n4 at *
    have q5 := fun v => c_l01Next v bs 5 n4.2 b.2.2.2 hl
    have c := nx_ok bs 5 b.2.2.2
    have c3 := c.2.2.1 (by omega)
    generalize nx bs 5 n4.2 = n5 at *
    obtain ⟨r, hr⟩ : ∃ r : Nat, (1 + n4.1).toNat = r := ⟨_, rfl⟩
    obtain ⟨cN, hc⟩ : ∃ c : Nat, (1 + n5.1).toNat = c := ⟨_, rfl⟩
    have er : 1 + n4.1 = (r : Int) := by omega
    have ec : 1 + n5.1 = (cN : Int) := by omega
    have hok := fun i => ttabTo_ok (bs := bs) c.2.2.2 cN i
    rw [hr, hc]
    simp -dsimp -implicitDefEqProofs only [go_sem, ↓reduceIte, h0]
    ((repeat' (with_reducible refine And.intro ?_ ?_)); all_goals try (first | omega | (refine ⟨?_, ?_⟩ <;> omega) | (exact rfl)))
    (refine sCallT_io [1000000000] ?_; simp -dsimp -implicitDefEqProofs only [go_sem, ↓reduceIte]; refine sCallM_one (q4 _) ?_; simp -dsimp -implicitDefEqProofs only [go_sem, ↓reduceIte])
    ((repeat' (with_reducible refine And.intro ?_ ?_)); all_goals try (first | omega | (refine ⟨?_, ?_⟩ <;> omega) | (exact rfl)))
    (refine sCallT_io [1000000000] ?_; simp -dsimp -implicitDefEqProofs only [go_sem, ↓reduceIte]; refine sCallM_one (q5 _) ?_; simp -dsimp -implicitDefEqProofs only [go_sem, ↓reduceIte])
    ((repeat' (with_reducible refine And.intro ?_ ?_)); all_goals try (first | omega | (refine ⟨?_, ?_⟩ <;> omega) | (exact rfl)))
    rw [er, ec]
    have hrl : r ≤ 4 := by omega
    have hcl : cN ≤ 5 := by omega
    have hc1 : 1 ≤ cN := by omega
    clear hr hc er ec b3 c3 b c
    refine Later.upP [0, 3, 4] [27, 35, 36, 37, 38, 41, 42] [21, 27, 35, 1000000000] r (fun _ => True) (fun i => [(6, eI i), (5, .ref 21 0 0 i)]) (fun i => [(21, .row 0 ⟨1, false⟩ true ((ttabTo bs cN n5.2 i).1.map eIs)), (1000000000, srcB v bs (ttabTo bs cN n5.2 i).2)]) trivial (.here ?_) rfl (fun i hi _ => ?_) (fun _ => ?_)
    · simp -dsimp -implicitDefEqProofs only [go_sem, ↓reduceIte, ttabTo]
      ((repeat' (with_reducible refine And.intro ?_ ?_)); all_goals try (first | omega | (refine ⟨?_, ?_⟩ <;> omega) | (exact rfl)))
    · refine Later.vc rfl ?_
      obtain ⟨o1, o2, o3⟩ := hok i
      have hlt : decide ((i : Int) < r) = true := decide_eq_true (by omega)
      have hrok := fun k => trowTo_ok (bs := bs) o1 k
      rw [ttabTo_succ]
      generalize ttabTo bs cN n5.2 i = T at *
      have tT := tk eIs T.1 i (by omega)
      simp -dsimp -implicitDefEqProofs only [pick_nil, pick_cons, look_nil, look_cons, dropB_nil, dropB_cons, inD_nil, inD_cons, inE_nil, inE_cons, or_t_l, or_f_l, Nat.reduceBEq, Nat.reduceDiv, Nat.reduceAdd, beq_self_eq_true, uq0, uq1, ↓reduceIte, Nat.reduceEqDiff, uq2, uq3]
      simp -dsimp -implicitDefEqProofs only [go_sem, ↓reduceIte, hlt]
      refine Later.upP [0, 3, 4, 5, 6] [35, 36, 37, 38] [27, 35, 1000000000] cN (fun _ => True) (fun k => [(8, eI k), (7, .ref 27 0 0 k)]) (fun k => [(27, .row 0 ⟨1, false⟩ true ((trowTo bs T.2 k).1.map eI)), (1000000000, srcB v bs (trowTo bs T.2 k).2)]) trivial (.here ?_) rfl (fun k hk _ => ?_) (fun _ => ?_)
      · simp -dsimp -implicitDefEqProofs only [go_sem, ↓reduceIte, trowTo]
        ((repeat' (with_reducible refine And.intro ?_ ?_)); all_goals try (first | omega | (refine ⟨?_, ?_⟩ <;> omega) | (exact rfl)))
      · refine Later.vc rfl ?_
        obtain ⟨p1, p2⟩ := hrok k
        have hlt : decide ((k : Int) < cN) = true := decide_eq_true (by omega)
        rw [trowTo_succ]
        generalize trowTo bs T.2 k = R at *
        have qp := fun v v2 => c_l01Pick v v2 true bs [0, 1, 1] _ R.2 rfl (by simp) (by simp) p1 hl
        generalize pk bs [0, 1, 1] R.2 = pp at *
        have tR := tk eI R.1 k (by omega)
        simp -dsimp -implicitDefEqProofs only [pick_nil, pick_cons, look_nil, look_cons, dropB_nil, dropB_cons, inD_nil, inD_cons, inE_nil, inE_cons, or_t_l, or_f_l, Nat.reduceBEq, Nat.reduceDiv, Nat.reduceAdd, beq_self_eq_true, uq0, uq1, ↓reduceIte, Nat.reduceEqDiff, uq2, uq3]
        simp -dsimp -implicitDefEqProofs only [go_sem, ↓reduceIte, hlt]
        ((repeat' (with_reducible refine And.intro ?_ ?_)); all_goals try (first | omega | (refine ⟨?_, ?_⟩ <;> omega) | (exact rfl)))
        (refine sCallT_io [1000000000, 35] ?_; simp -dsimp -implicitDefEqProofs only [go_sem, ↓reduceIte]; refine sCallM_one (qp _ _) ?_; simp -dsimp -implicitDefEqProofs only [go_sem, ↓reduceIte])
        ((repeat' (with_reducible refine And.intro ?_ ?_)); all_goals try (first | omega | (refine ⟨?_, ?_⟩ <;> omega) | (exact rfl)))
        all_goals first | (refine .here ?_; simp -dsimp -implicitDefEqProofs only [go_sem, ↓reduceIte, tR]; ((repeat' (with_reducible refine And.intro ?_ ?_)); all_goals try (first | omega | (refine ⟨?_, ?_⟩ <;> omega) | (exact rfl))); all_goals first | (simp; done) | trace_state) | trace_state
      · obtain ⟨p1, p2⟩ := hrok cN
        generalize trowTo bs T.2 cN = R at *
        refine Later.known 7 27 0 cN ⟨1, false⟩ _ rfl (by decide) rfl (by simp [p2]) (by omega) (by decide) fun u => ?_
        refine Later.vc rfl ?_
        have hge : decide ((cN : Int) < cN) = false := decide_eq_false (by omega)
        have e2 : (T.1.map eIs ++ [AV.val u]).set i (.arr ⟨1, false⟩ (R.1.map eI)) = (T.1 ++ [R.1]).map eIs := by
          rw [List.set_append_right _ _ (by simp [o2])]
          simp [o2, eIs]
        simp -dsimp -implicitDefEqProofs only [pick_nil, pick_cons, look_nil, look_cons, dropB_nil, dropB_cons, inD_nil, inD_cons, inE_nil, inE_cons, or_t_l, or_f_l, Nat.reduceBEq, Nat.reduceDiv, Nat.reduceAdd, beq_self_eq_true, uq0, uq1, ↓reduceIte, Nat.reduceEqDiff, uq2, uq3]
        simp -dsimp -implicitDefEqProofs only [go_sem, ↓reduceIte, hge, tT]
        ((repeat' (with_reducible refine And.intro ?_ ?_)); all_goals try (first | omega | (refine ⟨?_, ?_⟩ <;> omega) | (exact rfl)))
        all_goals first
          | (refine RefP.back 21 1 i 27 0 _ _ _ u (by decide) rfl (by simp [o2]) rfl (.here ?_)
             rw [e2]
             simp -dsimp -implicitDefEqProofs only [go_sem, ↓reduceIte]
             ((repeat' (with_reducible refine And.intro ?_ ?_)); all_goals try (first | omega | (refine ⟨?_, ?_⟩ <;> omega) | (exact rfl)))
             all_goals trace_state)
          | trace_state
    · obtain ⟨o1, o2, o3⟩ := hok r
      generalize ttabTo bs cN n5.2 r = T at *
      have tT := tk eIs T.1 r (by omega)
      have hge : decide ((r : Int) < r) = false := decide_eq_false (by omega)
      refine Later.vc rfl ?_
      simp -dsimp -implicitDefEqProofs only [pick_nil, pick_cons, look_nil, look_cons, dropB_nil, dropB_cons, inD_nil, inD_cons, inE_nil, inE_cons, or_t_l, or_f_l, Nat.reduceBEq, Nat.reduceDiv, Nat.reduceAdd, beq_self_eq_true, uq0, uq1, ↓reduceIte, Nat.reduceEqDiff, uq2, uq3]
      simp -dsimp -implicitDefEqProofs only [go_sem, ↓reduceIte, hge]
      ((repeat' (with_reducible refine And.intro ?_ ?_)); all_goals try (first | omega | (refine ⟨?_, ?_⟩ <;> omega) | (exact rfl)))
      all_goals first | (refine ⟨_, .inl rfl, ?_⟩; simp [eIs]; done) | (rw [tT]; done) | (simp; done) | trace_state
theorem c_l11Draw (v : Nat) (bs : List UInt8) (s : Src) (h : SrcOk s) (hl : bs.length ≤ 4096) :
    FnMR Tryz.prog 99 [srcB v bs s] [.ptr 1000000000 v 0 0] (fun x io => x = eIss (tabD bs s).1 ∧ io = [srcB v bs (tabD bs s).2]) := by
  refine FnMR.nil0 ?_
  refine FnMR.of_vc 47 [.tmp 2] Tryz.func99 rfl rfl rfl rfl rfl (of_decide_eq_true rfl) ?_
  have qv := fun v => c_l11Valid v bs s h hl
  have ht := tabV_ok bs h
  obtain ⟨RR, hR⟩ : ∃ RR, tabD bs s = RR := ⟨_, rfl⟩
  rw [hR]
  unfold tabD at hR
  generalize tabV bs s = T at *
  obtain ⟨T, s1⟩ := T
  obtain ⟨o1, t1, t2, t3⟩ := ht
  simp only at o1 t1 t2 t3 hR qv
  unfold tabW at hR
  have q30 := fun v => c_l01Next v bs 30 s1 o1 hl
  have a := (nx_ok bs 30 o1).2.2.2
  generalize nx bs 30 s1 = n at *
  simp -dsimp -implicitDefEqProofs only [go_sem, ↓reduceIte]
  refine sCallT_io [1000000000] ?_
  simp -dsimp -implicitDefEqProofs only [go_sem, ↓reduceIte]
  refine sCallM_any (qv _) ?_
  rintro _ _ ⟨rfl, rfl⟩
  simp -dsimp -implicitDefEqProofs only [go_sem, ↓reduceIte]
  cases h0 : (n.1 == 0) with
  | true =>
    rw [h0, if_pos rfl] at hR
    subst hR
    have qp := fun v v2 => c_l01Pick v v2 true bs [-1, 2] _ n.2 rfl (by simp) (by simp) a hl
    generalize pk bs [-1, 2] n.2 = pp at *
    (refine sCallT_io [1000000000] ?_; simp -dsimp -implicitDefEqProofs only [go_sem, ↓reduceIte]; refine sCallM_one (q30 _) ?_; simp -dsimp -implicitDefEqProofs only [go_sem, ↓reduceIte])
    simp -dsimp -implicitDefEqProofs only [go_sem, ↓reduceIte, h0]
    obtain ⟨r0, T, rfl⟩ : ∃ r0 T', T = r0 :: T' := by cases T with
      | nil => simp at t1
      | cons r0 T => exact ⟨_, _, rfl⟩
    have hr0 := (t3 r0 (List.mem_cons_self ..)).1
    obtain ⟨c0, r0, rfl⟩ : ∃ c0 r', r0 = c0 :: r' := by cases r0 with
      | nil => simp at hr0
      | cons c0 r0 => exact ⟨_, _, rfl⟩
    refine Later.takeOut 6000 0 0 90 _ ((c0 :: r0).map eI) ⟨1, false⟩ (by decide) rfl rfl (by rw [List.length_map]; exact hr0) rfl fun u => ?_
    refine Later.hook ?_
    refine Later.solo 6 mixed rfl ?_
    simp -dsimp -implicitDefEqProofs only [go_sem, ↓reduceIte]
    ((repeat' (with_reducible refine And.intro ?_ ?_)); all_goals try (first | omega | (refine ⟨?_, ?_⟩ <;> omega) | (exact rfl)))
    (refine sCallX_io [1000000000, 14] rfl ?_; simp -dsimp -implicitDefEqProofs only [go_sem, ↓reduceIte]; refine sCallMX_one (qp _ _) ?_; simp -dsimp -implicitDefEqProofs only [go_sem, ↓reduceIte])
    ((repeat' (with_reducible refine And.intro ?_ ?_)); all_goals try (first | omega | (refine ⟨?_, ?_⟩ <;> omega) | (exact rfl)))
    all_goals first
      | (refine hk.back 6000 0 0 90 0 _ _ _ u (by decide) rfl rfl rfl (hk.go ?_)
         simp -dsimp -implicitDefEqProofs only [go_sem, ↓reduceIte]
         ((repeat' (with_reducible refine And.intro ?_ ?_)); all_goals try (first | omega | (refine ⟨?_, ?_⟩ <;> omega) | (exact rfl)))
         all_goals first | (refine ⟨_, .inl rfl, ?_⟩; simp [eIs]; done) | (simp; done) | trace_state)
      | trace_state
  | false =>
    rw [h0, if_neg (by simp)] at hR
    cases h1 : (n.1 == 1) with
    | true =>
      rw [h1, if_pos rfl] at hR
      subst hR
      refine sCallT_ioU 6000 0 ⟨1, false⟩ _ (by decide) rfl [1000000000] ?_
      simp -dsimp -implicitDefEqProofs only [go_sem, ↓reduceIte]
      refine sCallM_one (q30 _) ?_
      have tT := tk eIs T T.length (Nat.le_refl _)
      simp -dsimp -implicitDefEqProofs only [go_sem, ↓reduceIte, h0, h1]
      refine .inr ⟨by omega, _, .inl rfl, ?_⟩
      rw [List.take_of_length_le (by simp)]
      simp [eIs]
    | false =>
      rw [h1, if_neg (by simp)] at hR
      cases h2 : (n.1 == 2) with
      | true =>
        rw [h2, if_pos rfl] at hR
        refine sCallT_ioU 6000 0 ⟨1, false⟩ _ (by decide) rfl [1000000000] ?_
        simp -dsimp -implicitDefEqProofs only [go_sem, ↓reduceIte]
        refine sCallM_one (q30 _) ?_
        simp -dsimp -implicitDefEqProofs only [go_sem, ↓reduceIte, h0, h1, h2]
        refine Later.lp [0] [26, 28, 35, 36] [6000, 1000000000] (fun x : Nat × List (List Int) × Src => SrcOk x.2.2 ∧ 1 ≤ x.2.1.length ∧ x.2.1.length ≤ 11 ∧ x.2.1.length + x.1 = 12 ∧ padF bs x.1 x.2.1 x.2.2 = RR) (fun x => [(3, .ref 6000 0 0 x.2.1.length)])
          (fun x => [(6000, .row 0 ⟨1, false⟩ false (x.2.1.map eIs)), (1000000000, srcB v bs x.2.2)]) (fun x => x.1) (12 - T.length, T, n.2) ⟨a, t1, by simp only; omega, by simp only; omega, hR⟩ ?_ rfl (fun x hx => ?_)
        · simp -dsimp -implicitDefEqProofs only [go_sem, ↓reduceIte]
          ((repeat' (with_reducible refine And.intro ?_ ?_)); all_goals try (first | omega | (refine ⟨?_, ?_⟩ <;> omega) | (exact rfl)))
        · obtain ⟨k, t, s⟩ := x
          obtain ⟨x1, x2, x3, x4, x5⟩ := hx
          simp only at x1 x2 x3 x4 x5 ⊢
          obtain ⟨k, rfl⟩ : ∃ k', k = k' + 1 := ⟨k - 1, by omega⟩
          simp only [padF] at x5
          have q2 := fun v => c_l01Next v bs 2 s x1 hl
          have b := nx_ok bs 2 x1
          have b3 := b.2.2.1 (by omega)
          generalize nx bs 2 s = n2 at *
          have tt := tk eIs t t.length (Nat.le_refl _)
          have e2 := mapS eIs t (t.getD 0 [])
          have g0 : (t.map eIs)[0]? = some (eIs (t.getD 0 [])) := by
            cases t with
            | nil => simp at x2
            | cons r t => simp
          simp -dsimp -implicitDefEqProofs only [pick_nil, pick_cons, look_nil, look_cons, dropB_nil, dropB_cons, inD_nil, inD_cons, inE_nil, inE_cons, or_t_l, or_f_l, Nat.reduceBEq, Nat.reduceDiv, Nat.reduceAdd, beq_self_eq_true, uq0, uq1, ↓reduceIte, Nat.reduceEqDiff, uq2, uq3]
          simp -dsimp -implicitDefEqProofs only [go_sem, ↓reduceIte]
          (refine sCallT_io [1000000000] ?_; simp -dsimp -implicitDefEqProofs only [go_sem, ↓reduceIte]; refine sCallM_one (q2 _) ?_; simp -dsimp -implicitDefEqProofs only [go_sem, ↓reduceIte])
          ((repeat' (with_reducible refine And.intro ?_ ?_)); all_goals try (first | omega | (refine ⟨?_, ?_⟩ <;> omega) | (exact rfl)))
          cases hc : decide ((t.length : Int) < 10 + n2.1) with
          | true =>
            have hlt := of_decide_eq_true hc
            rw [hc, if_pos rfl] at x5
            simp -dsimp -implicitDefEqProofs only [go_sem, ↓reduceIte, hc, g0]
            refine ⟨⟨by omega, by omega⟩, .inr ⟨by omega, (k, t ++ [t.getD 0 []], n2.2), ⟨b.2.2.2, by simp, by simp; omega, by simp; omega, x5⟩, by simp, ?_⟩⟩
            simp -dsimp -implicitDefEqProofs only [go_sem, ↓reduceIte, tt]
            ((repeat' (with_reducible refine And.intro ?_ ?_)); all_goals try (first | omega | (refine ⟨?_, ?_⟩ <;> omega) | (exact rfl)))
            all_goals first | (simp; done) | trace_state
          | false =>
            rw [hc, if_neg (by simp)] at x5
            subst x5
            simp -dsimp -implicitDefEqProofs only [go_sem, ↓reduceIte, hc, tt]
            ((repeat' (with_reducible refine And.intro ?_ ?_)); all_goals try (first | omega | (refine ⟨?_, ?_⟩ <;> omega) | (exact rfl)))
            all_goals first | (exact ⟨_, .inl rfl, rfl⟩) | trace_state
      | false =>
        rw [h2, if_neg (by simp)] at hR
        cases h3 : (n.1 == 3) with
        | true =>
          rw [h3, if_pos rfl] at hR
          subst hR
          have q2 := fun v => c_l01Next v bs 2 n.2 a hl
          have b := nx_ok bs 2 a
          have b3 := b.2.2.1 (by omega)
          generalize nx bs 2 n.2 = n2 at *
          (refine sCallT_io [1000000000] ?_; simp -dsimp -implicitDefEqProofs only [go_sem, ↓reduceIte]; refine sCallM_one (q30 _) ?_; simp -dsimp -implicitDefEqProofs only [go_sem, ↓reduceIte])
          simp -dsimp -implicitDefEqProofs only [go_sem, ↓reduceIte, h0, h1, h2, h3]
          ((repeat' (with_reducible refine And.intro ?_ ?_)); all_goals try (first | omega | (refine ⟨?_, ?_⟩ <;> omega) | (exact rfl)))
          (refine sCallT_io [1000000000] ?_; simp -dsimp -implicitDefEqProofs only [go_sem, ↓reduceIte]; refine sCallM_one (q2 _) ?_; simp -dsimp -implicitDefEqProofs only [go_sem, ↓reduceIte])
          ((repeat' (with_reducible refine And.intro ?_ ?_)); all_goals try (first | omega | (refine ⟨?_, ?_⟩ <;> omega) | (exact rfl)))
          all_goals first | (refine ⟨_, .inl rfl, ?_⟩; simp [eIs]; done) | (simp; done) | trace_state
        | false =>
          rw [h3, if_neg (by simp)] at hR
          cases h4 : (n.1 == 4) with
          | true =>
            rw [h4, if_pos rfl] at hR
            subst hR
            (refine sCallT_io [1000000000] ?_; simp -dsimp -implicitDefEqProofs only [go_sem, ↓reduceIte]; refine sCallM_one (q30 _) ?_; simp -dsimp -implicitDefEqProofs only [go_sem, ↓reduceIte])
            simp -dsimp -implicitDefEqProofs only [go_sem, ↓reduceIte, h0, h1, h2, h3, h4]
            ((repeat' (with_reducible refine And.intro ?_ ?_)); all_goals try (first | omega | (refine ⟨?_, ?_⟩ <;> omega) | (exact rfl)))
            all_goals first | (exact ⟨_, .inr ⟨_, rfl⟩, rfl⟩) | trace_state
          | false =>
            rw [h4, if_neg (by simp)] at hR
            subst hR
            have tT := tk eIs T T.length (Nat.le_refl _)
            (refine sCallT_io [1000000000] ?_; simp -dsimp -implicitDefEqProofs only [go_sem, ↓reduceIte]; refine sCallM_one (q30 _) ?_; simp -dsimp -implicitDefEqProofs only [go_sem, ↓reduceIte])
            simp -dsimp -implicitDefEqProofs only [go_sem, ↓reduceIte, h0, h1, h2, h3, h4]
            ((repeat' (with_reducible refine And.intro ?_ ?_)); all_goals try (first | omega | (refine ⟨?_, ?_⟩ <;> omega) | (exact rfl)))
            all_goals first | (refine ⟨_, .inl rfl, ?_⟩; simp [eIs]; done) | (rw [tT]; done) | (simp; done) | trace_state
end Go.Vc


set_option linter.unusedVariables false
set_option linter.unusedSimpArgs false
set_option linter.unnecessarySimpa false
namespace Go.Vc
open Go.Proofs
set_option maxRecDepth 100000
set_option maxHeartbeats 2000000
attribute [go_sem] Option.map_none Nat.sub_zero
def absN (x : Int) : Int := if x < -x then -x else x
def runAt (c : List Int) : Nat → Nat
  | 0 => 1
  | i + 1 => if c.getD (i + 1) 0 = c.getD i 0 then runAt c i + 1 else 1
theorem runAt_spec (c : List Int) (i : Nat) : 1 ≤ runAt c i ∧ runAt c i ≤ i + 1 ∧ (∀ j, j < runAt c i → c.getD (i - j) 0 = c.getD i 0) ∧ (runAt c i < i + 1 → c.getD (i - runAt c i) 0 ≠ c.getD i 0) := by
  induction i with
  | zero => exact ⟨Nat.le_refl _, Nat.le_refl _, fun j hj => by simp [runAt] at hj; subst hj; rfl, fun h => by simp [runAt] at h⟩
  | succ i ih =>
    obtain ⟨h1, h2, h3, h4⟩ := ih
    simp only [runAt]
    split
    · rename_i e
      refine ⟨by omega, by omega, fun j hj => ?_, fun hj => ?_⟩
      · rw [e]
        cases j with
        | zero => exact e
        | succ j => rw [show i + 1 - (j + 1) = i - j by omega]; exact h3 j (by omega)
      · rw [e, show i + 1 - (runAt c i + 1) = i - runAt c i by omega]; exact h4 (by omega)
    · rename_i e
      refine ⟨by omega, by omega, fun j hj => ?_, fun _ => ?_⟩
      · have : j = 0 := by omega
        subst this; rfl
      · show c.getD i 0 ≠ _
        exact fun h => e h.symm
theorem runAt_take (c : List Int) (n i : Nat) (h : i < n) : runAt (c.take n) i = runAt c i := by
  have g : ∀ j, j < n → (c.take n).getD j 0 = c.getD j 0 := fun j hj => by simp [List.getD_eq_getElem?_getD, List.getElem?_take, hj]
  induction i with
  | zero => rfl
  | succ i ih => simp only [runAt]; rw [g (i + 1) h, g i (by omega), ih (by omega)]
def runTo (c : List Int) (i : Nat) : Nat := if i = 0 then 0 else runAt c (i - 1)
def stepAt (m : MkM) (c : List Int) (i : Nat) : Bool := i == 0 || decide (absN (c.getD i 0 - c.getD (i - 1) 0) ≤ m.step)
def kindsTo (c : List Int) (n : Nat) : Nat := ((List.range n).filter fun i => !has (c.take i) (c.getD i 0)).length
theorem kindsTo_succ (c : List Int) (i : Nat) (h : i < c.length) : (kindsTo c (i + 1) : Int) = if (!has (c.take i) c[i]) = true then (kindsTo c i : Int) + 1 else kindsTo c i := by
  have g : c.getD i 0 = c[i] := by simp [List.getD_eq_getElem?_getD, h]
  rw [kindsTo, List.range_succ, List.filter_append, List.filter_cons, g]
  split <;> simp [kindsTo]
theorem kindsTo_le (c : List Int) (i : Nat) : kindsTo c i ≤ i := by
  rw [kindsTo]; exact Nat.le_trans (List.length_filter_le _ _) (by simp)
attribute [irreducible] runAt kindsTo
theorem c_l01Abs (x : Int) (h : -1000 ≤ x ∧ x ≤ 1000) : Fn Tryz.prog 142 [eI x] true (· = eI (absN x)) := by
  refine Fn.of_vcN 7 [.tmp 2] Tryz.func142 rfl rfl rfl rfl rfl (of_decide_eq_true rfl) ?_
  simp -dsimp -implicitDefEqProofs only [go_sem, ↓reduceIte]
  repeat' first
    | (refine Br.intro (fun _ => ?_) (fun _ => ?_) <;> try simp -dsimp -implicitDefEqProofs only [go_sem, ↓reduceIte, *])
    | (with_reducible refine And.intro ?_ ?_)
  all_goals first | omega | (refine ⟨?_, ?_⟩ <;> omega) | rfl | (simp; done) | (simp_all [absN]; done) | (simp_all [absN]; omega) | (simp_all [absN]; split <;> simp_all <;> omega) | trace_state
theorem c_l02Kinds (c : List Int) (h : c.length ≤ 1048576) : Fn Tryz.prog 143 [eIs c] true (· = eI (kindsTo c c.length)) := by
  refine Fn.of_vcN 23 [.tmp 2] Tryz.func143 rfl rfl rfl rfl rfl (of_decide_eq_true rfl) ?_
  simp -dsimp -implicitDefEqProofs only [go_sem, ↓reduceIte]
  refine Later.up [0] [7, 18] [] c.length (fun _ => True) (fun i => [(4, eI i), (3, eI (kindsTo c i))]) (fun _ => []) trivial ?_ rfl (fun i hi _ => ?_) (fun _ => ?_)
  · simp -dsimp -implicitDefEqProofs only [go_sem, ↓reduceIte]
    all_goals first | (simp [kindsTo]; done) | trace_state
  · have gi := get_some hi
    have li := lt_len hi
    have hs := kindsTo_succ c i hi
    have hle := kindsTo_le c i
    simp -dsimp -implicitDefEqProofs only [pick_nil, pick_cons, look_nil, look_cons, dropB_nil, dropB_cons, inD_nil, inD_cons, inE_nil, inE_cons, or_t_l, or_f_l, Nat.reduceBEq, Nat.reduceDiv, Nat.reduceAdd, beq_self_eq_true, uq0, uq1, ↓reduceIte, Nat.reduceEqDiff, uq2, uq3]
    rw [hs]
    clear hs
    simp -dsimp -implicitDefEqProofs only [go_sem, ↓reduceIte, li, gi]
    repeat' first
      | (refine Br.intro (fun _ => ?_) (fun _ => ?_) <;> try simp -dsimp -implicitDefEqProofs only [go_sem, ↓reduceIte, *])
      | (with_reducible refine And.intro ?_ ?_)
      | (refine Later.draw mixed rfl ?_; try simp -dsimp -implicitDefEqProofs only [go_sem, ↓reduceIte, *])
      | (rw [← List.map_take]; refine sCallX_one (c_l01Has (c.take i) c[i] (by simp; omega)) ?_; try simp -dsimp -implicitDefEqProofs only [go_sem, ↓reduceIte, *])
    all_goals first
      | omega | (refine ⟨?_, ?_⟩ <;> omega) | (simp; done) | (simp; omega)
      | rfl
      | (simp_all; done)
      | (simp_all; omega)
      | trace_state
  · have hle := kindsTo_le c c.length
    simp -dsimp -implicitDefEqProofs only [pick_nil, pick_cons, look_nil, look_cons, dropB_nil, dropB_cons, inD_nil, inD_cons, inE_nil, inE_cons, or_t_l, or_f_l, Nat.reduceBEq, Nat.reduceDiv, Nat.reduceAdd, beq_self_eq_true, uq0, uq1, ↓reduceIte, Nat.reduceEqDiff, uq2, uq3]
    simp -dsimp -implicitDefEqProofs only [go_sem, ↓reduceIte, nlt_len]
end Go.Vc


set_option linter.unusedVariables false
set_option linter.unusedSimpArgs false
set_option linter.unnecessarySimpa false
namespace Go.Vc
open Go.Proofs
set_option maxRecDepth 100000
set_option maxHeartbeats 2000000
theorem isMk_same {m : MkM} (h : isMk m = true) : 1 ≤ m.same ∧ m.same ≤ 6 ∧ 1 ≤ m.least ∧ 1 ≤ m.step := by
  simp only [isMk, Bool.and_eq_true, isIn, decide_eq_true_eq] at h
  omega
end Go.Vc


set_option linter.unusedVariables false
set_option linter.unusedSimpArgs false
set_option linter.unnecessarySimpa false
namespace Go.Vc
open Go.Proofs
set_option maxRecDepth 100000
structure KS (σ : Type) where
  ver : Nat
  zs : List Int
  s : σ
def stN {τ : Type} (f : Nat → τ → τ × Bool) (t : τ) : Nat → τ × Bool
  | 0 => (t, true)
  | i + 1 => if (stN f t i).2 = true then f i (stN f t i).1 else stN f t i
theorem stN_succ {τ : Type} {f : Nat → τ → τ × Bool} {t : τ} {i : Nat} (h : (stN f t i).2 = true) : stN f t (i + 1) = f i (stN f t i).1 := by
  rw [stN, if_pos h]
def visitL {σ : Type} (f : σ → List Int → σ × Bool) : σ → List (List Int) → σ × Bool
  | s, [] => (s, true)
  | s, k :: r => if (f s k).2 = true then visitL f (f s k).1 r else f s k
theorem visitL_append {σ : Type} {f : σ → List Int → σ × Bool} : ∀ (a b : List (List Int)) (s : σ), visitL f s (a ++ b) = if (visitL f s a).2 = true then visitL f (visitL f s a).1 b else visitL f s a
  | [], b, s => by simp [visitL]
  | k :: a, b, s => by
    simp only [uq2, visitL]
    by_cases h : (f s k).2 = true
    · simp only [h, if_true]; exact visitL_append a b _
    · have h' : (f s k).2 = false := by simpa using h
      simp [h']
def stepOk (m : MkM) (c : List Int) (d : Int) : Bool := c.isEmpty || decide (absN (d - c.getD (c.length - 1) 0) ≤ m.step)
def runOk (m : MkM) (c : List Int) (d : Int) : Bool := decide ((runAt (c ++ [d]) c.length : Int) ≤ m.same)
def keysFrom (m : MkM) : Nat → List Int → List (List Int)
  | 0, c => if (kindsTo c c.length : Int) < m.least then [] else [c]
  | n + 1, c => (List.range m.depths.toNat).flatMap fun (d : Nat) => if (stepOk m c (d : Int) && runOk m c (d : Int)) = true then keysFrom m n (c ++ [(d : Int)]) else []
def cutF {σ : Type} (m : MkM) (f : σ → List Int → σ × Bool) : Nat → List Int → KS σ → KS σ × Bool
  | 0, c, t => if (kindsTo c c.length : Int) < m.least then (t, true) else (⟨t.ver, t.zs, (f t.s c).1⟩, (f t.s c).2)
  | n + 1, c, t => stN (fun (d : Nat) t => if stepOk m c d = true then if runOk m c d = true then cutF m f n (c ++ [(d : Int)]) ⟨t.ver + 1, t.zs.take c.length ++ [(d : Int)], t.s⟩ else (⟨t.ver + 1, t.zs.take c.length ++ [(d : Int)], t.s⟩, true) else (t, true)) t m.depths.toNat
def cutB {σ : Type} (m : MkM) (f : σ → List Int → σ × Bool) (n : Nat) (c : List Int) (d : Nat) (t : KS σ) : KS σ × Bool :=
  if stepOk m c d = true then if runOk m c d = true then cutF m f n (c ++ [(d : Int)]) ⟨t.ver + 1, t.zs.take c.length ++ [(d : Int)], t.s⟩ else (⟨t.ver + 1, t.zs.take c.length ++ [(d : Int)], t.s⟩, true) else (t, true)
theorem cutF_succ {σ : Type} (m : MkM) (f : σ → List Int → σ × Bool) (n : Nat) (c : List Int) (t : KS σ) : cutF m f (n + 1) c t = stN (cutB m f n c) t m.depths.toNat := rfl
def okZ {σ : Type} (c : List Int) (t : KS σ) : Prop := t.zs.take c.length = c ∧ c.length ≤ t.zs.length
theorem okZ_next {σ : Type} {c : List Int} {t : KS σ} (h : okZ c t) (d : Int) : okZ (c ++ [d]) (⟨t.ver + 1, t.zs.take c.length ++ [d], t.s⟩ : KS σ) := by
  refine ⟨?_, ?_⟩
  · show (t.zs.take c.length ++ [d]).take (c ++ [d]).length = _
    rw [h.1]; exact List.take_length
  · show (c ++ [d]).length ≤ (t.zs.take c.length ++ [d]).length
    rw [h.1]; exact Nat.le_refl _
theorem okZ_back {σ : Type} {c : List Int} {d : Int} {t : KS σ} (h : okZ (c ++ [d]) t) : okZ c t := by
  have h2 : c.length ≤ t.zs.length := by have := h.2; simp at this; omega
  refine ⟨?_, h2⟩
  have := congrArg (List.take c.length) h.1
  simp only [List.take_take] at this
  rw [show min c.length (c ++ [d]).length = c.length by simp] at this
  rw [this]; simp
theorem cutF_spec {σ : Type} (m : MkM) (f : σ → List Int → σ × Bool) : ∀ (n : Nat) (c : List Int) (t : KS σ), okZ c t → okZ c (cutF m f n c t).1 ∧ (cutF m f n c t).1.s = (visitL f t.s (keysFrom m n c)).1 ∧ (cutF m f n c t).2 = (visitL f t.s (keysFrom m n c)).2
  | 0, c, t, h => by
    simp only [cutF, keysFrom]
    split
    · exact ⟨h, rfl, rfl⟩
    · refine ⟨h, ?_, ?_⟩
      · simp only [visitL]; split <;> rfl
      · simp only [visitL]; split <;> simp_all
  | n + 1, c, t, h => by
    rw [cutF_succ, keysFrom]
    generalize m.depths.toNat = D
    induction D with
    | zero => exact ⟨h, rfl, rfl⟩
    | succ D ih =>
      obtain ⟨i1, i2, i3⟩ := ih
      rw [List.range_succ, List.flatMap_append, visitL_append]
      rw [← i3]
      by_cases hb : (stN (cutB m f n c) t D).2 = true
      · rw [stN_succ hb, if_pos hb, ← i2]
        generalize (stN (cutB m f n c) t D).1 = u at i1
        simp only [List.flatMap_cons, List.flatMap_nil, List.append_nil, cutB]
        by_cases h1 : stepOk m c D = true
        · by_cases h2 : runOk m c D = true
          · rw [if_pos h1, if_pos h2, if_pos (by rw [h1, h2]; rfl)]
            have := cutF_spec m f n (c ++ [(D : Int)]) ⟨u.ver + 1, u.zs.take c.length ++ [(D : Int)], u.s⟩ (okZ_next i1 D)
            exact ⟨okZ_back this.1, this.2.1, this.2.2⟩
          · rw [if_pos h1, if_neg h2, if_neg (by simp [h2])]
            exact ⟨okZ_back (okZ_next i1 D), rfl, rfl⟩
        · rw [if_neg h1, if_neg (by simp [h1])]
          exact ⟨i1, rfl, rfl⟩
      · rw [stN, if_neg hb, if_neg hb]
        exact ⟨i1, i2, by simpa using i3⟩
theorem stN_okZ {σ : Type} {m : MkM} {f : σ → List Int → σ × Bool} {n : Nat} {c : List Int} {t : KS σ} (h : okZ c t) : ∀ D, okZ c (stN (cutB m f n c) t D).1
  | 0 => h
  | D + 1 => by
    have i1 := stN_okZ h D (m := m) (f := f) (n := n)
    by_cases hb : (stN (cutB m f n c) t D).2 = true
    · rw [stN_succ hb]
      generalize (stN (cutB m f n c) t D).1 = u at i1
      simp only [cutB]
      by_cases h1 : stepOk m c D = true
      · by_cases h2 : runOk m c D = true
        · rw [if_pos h1, if_pos h2]
          exact okZ_back (cutF_spec m f n (c ++ [(D : Int)]) ⟨u.ver + 1, u.zs.take c.length ++ [(D : Int)], u.s⟩ (okZ_next i1 D)).1
        · rw [if_pos h1, if_neg h2]; exact okZ_back (okZ_next i1 D)
      · rw [if_neg h1]; exact i1
    · rw [stN, if_neg hb]; exact i1
theorem keysFrom_mem (m : MkM) : ∀ (n : Nat) (c k : List Int), k ∈ keysFrom m n c → k.take c.length = c ∧ k.length = c.length + n
  | 0, c, k, h => by
    simp only [keysFrom] at h
    split at h
    · cases h
    · simp at h; subst h; simp
  | n + 1, c, k, h => by
    simp only [keysFrom, List.mem_flatMap, List.mem_range] at h
    obtain ⟨d, _, h⟩ := h
    split at h
    · have := keysFrom_mem m n _ k h
      have h1 := congrArg (List.take c.length) this.1
      simp only [List.take_take] at h1
      rw [show min c.length (c ++ [(d : Int)]).length = c.length by simp] at h1
      refine ⟨by rw [h1]; simp, by rw [this.2]; simp; omega⟩
    · cases h
def okTo (m : MkM) (c : List Int) : Bool := (List.range c.length).all fun i => decide ((runAt c i : Int) ≤ m.same) && stepAt m c i
theorem stepAt_take {m : MkM} {c : List Int} {d : Int} {i : Nat} (h : i < c.length) : stepAt m (c ++ [d]) i = stepAt m c i := by
  have g : ∀ j, j < c.length → (c ++ [d]).getD j 0 = c.getD j 0 := fun j hj => by simp [List.getD_eq_getElem?_getD, List.getElem?_append_left hj]
  unfold stepAt
  rw [g i h, g (i - 1) (by omega)]
theorem runAt_app {c : List Int} {d : Int} {i : Nat} (h : i < c.length) : runAt (c ++ [d]) i = runAt c i := by
  have := runAt_take (c ++ [d]) c.length i h
  simp at this
  exact this.symm
theorem okTo_snoc (m : MkM) (c : List Int) (d : Int) : okTo m (c ++ [d]) = (okTo m c && (stepOk m c d && runOk m c d)) := by
  have h1 : (List.range c.length).all (fun i => decide ((runAt (c ++ [d]) i : Int) ≤ m.same) && stepAt m (c ++ [d]) i) = okTo m c := by
    unfold okTo
    rw [Bool.eq_iff_iff, List.all_eq_true, List.all_eq_true]
    constructor
    · intro h i hi
      have := h i hi
      rwa [runAt_app (List.mem_range.1 hi), stepAt_take (List.mem_range.1 hi)] at this
    · intro h i hi
      rw [runAt_app (List.mem_range.1 hi), stepAt_take (List.mem_range.1 hi)]
      exact h i hi
  have h2 : stepAt m (c ++ [d]) c.length = stepOk m c d := by
    unfold stepAt stepOk
    cases c with
    | nil => simp
    | cons x r =>
      have g1 : ((x :: r) ++ [d]).getD (x :: r).length 0 = d := by simp [List.getD_eq_getElem?_getD]
      have g2 : ((x :: r) ++ [d]).getD ((x :: r).length - 1) 0 = (x :: r).getD ((x :: r).length - 1) 0 := by
        simp only [List.getD_eq_getElem?_getD]
        rw [List.getElem?_append_left (by simp)]
      rw [g1, g2]
      simp
  rw [okTo, List.length_append, show c.length + [d].length = c.length + 1 by rfl, range_all_succ, h1, h2]
  unfold runOk
  cases okTo m c <;> cases stepOk m c d <;> simp
def keysTo (m : MkM) (n : Nat) (c : List Int) (D : Nat) : List (List Int) := (List.range D).flatMap fun (d : Nat) => if (stepOk m c (d : Int) && runOk m c (d : Int)) = true then keysFrom m n (c ++ [(d : Int)]) else []
theorem keysTo_succ (m : MkM) (n : Nat) (c : List Int) (D : Nat) : keysTo m n c (D + 1) = keysTo m n c D ++ if (stepOk m c (D : Int) && runOk m c (D : Int)) = true then keysFrom m n (c ++ [(D : Int)]) else [] := by
  rw [keysTo, List.range_succ, List.flatMap_append]
  simp [keysTo]
theorem keysTo_mem {m : MkM} {n : Nat} {c k : List Int} : ∀ {D : Nat}, k ∈ keysTo m n c D → ∃ d : Nat, d < D ∧ k.take (c.length + 1) = c ++ [(d : Int)]
  | 0, h => by cases h
  | D + 1, h => by
    rw [keysTo_succ, List.mem_append] at h
    rcases h with h | h
    · obtain ⟨d, h1, h2⟩ := keysTo_mem h; exact ⟨d, by omega, h2⟩
    · split at h
      · have := (keysFrom_mem m n _ k h).1
        exact ⟨D, by omega, by simpa using this⟩
      · cases h
theorem take_app {key : List Int} {i : Nat} (h : i < key.length) : key.take (i + 1) = key.take i ++ [key.getD i 0] := by
  rw [List.take_add_one]
  simp [List.getD_eq_getElem?_getD, h]
theorem okTo_take {m : MkM} {key : List Int} (h : okTo m key = true) : ∀ j, okTo m (key.take (key.length - j)) = true
  | 0 => by simpa using h
  | j + 1 => by
    have ih := okTo_take h j
    by_cases e : j < key.length
    · rw [show key.length - j = key.length - (j + 1) + 1 by omega, take_app (by omega), okTo_snoc] at ih
      simp only [Bool.and_eq_true] at ih
      exact ih.1
    · rw [show key.length - (j + 1) = key.length - j by omega]; exact ih
theorem okTo_take' {m : MkM} {key : List Int} (h : okTo m key = true) {i : Nat} (hi : i ≤ key.length) : okTo m (key.take i) = true := by
  have := okTo_take h (key.length - i)
  rwa [show key.length - (key.length - i) = i by omega] at this
end Go.Vc


set_option linter.unusedVariables false
set_option linter.unusedSimpArgs false
set_option linter.unnecessarySimpa false
namespace Go.Vc
open Go.Proofs
set_option maxRecDepth 100000
set_option maxHeartbeats 2000000
def okAt (m : MkM) (c : List Int) (i : Nat) : Bool := decide ((runAt c i : Int) ≤ m.same) && stepAt m c i
theorem c_l02Begins (m : MkM) (c : List Int) (hm : isMk m = true) (h : c.length ≤ 6) (hel : ∀ x ∈ c, 0 ≤ x ∧ x ≤ 7) : Fn Tryz.prog 189 [eMk m, eIs c] true (· = eB (okTo m c)) := by
  refine Fn.of_vcN 53 [.tmp 4] Tryz.func189 rfl rfl rfl rfl rfl (of_decide_eq_true rfl) ?_
  have hF : okTo m c = (List.range c.length).all (okAt m c) := rfl
  simp -dsimp -implicitDefEqProofs only [go_sem, ↓reduceIte]
  refine Later.up [1, 2] [9, 47] [] c.length (fun i => (List.range i).all (okAt m c) = true) (fun i => [(6, eI i), (5, eI (runTo c i))]) (fun _ => []) (by simp) ?_ rfl (fun i hi hI => ?_) (fun hI => ?_)
  · rw [show runTo c 0 = 0 from rfl]
    simp -dsimp -implicitDefEqProofs only [go_sem, ↓reduceIte]
    all_goals (first | omega | (refine ⟨?_, ?_⟩ <;> omega) | (simp; done) | (simp; omega) | (refine ⟨?_, ?_⟩ <;> omega) | rfl | (simp; done) | (simp_all; done) | (simp_all; omega) | (exfalso; simp_all [bne]; done) | trace_state)
  · have no : okAt m c i = false → okTo m c = false := fun h => by rw [hF]; exact range_all_no hi h
    have yes : okAt m c i = true → (List.range (i + 1)).all (okAt m c) = true := fun h => by rw [range_all_succ, hI, h]; rfl
    have hrb : runTo c i ≤ i ∧ runTo c (i + 1) ≤ i + 1 := by
      refine ⟨?_, (runAt_spec c i).2.1⟩
      rw [runTo]; split
      · omega
      · have := (runAt_spec c (i - 1)).2.1; omega
    have e1 := hel c[i] (List.getElem_mem hi)
    have gi := get_some hi
    have li := lt_len hi
    have hok : okAt m c i = (decide (((runTo c (i + 1) : Nat) : Int) ≤ m.same) && stepAt m c i) := rfl
    clear hF hI
    by_cases hi0 : 0 < i
    rotate_left
    · have g3 : decide ((i : Int) > 0) = false := by simp; omega
      have hR : runTo c i = 0 ∧ runTo c (i + 1) = 1 := by
        have e0 : i = 0 := by omega
        subst e0
        exact ⟨rfl, by show runAt c 0 = 1; unfold runAt; rfl⟩
      have hs : okAt m c i = true := by
        have e0 : i = 0 := by omega
        have := isMk_same hm
        rw [hok, hR.2]
        subst e0
        have : decide (((1 : Nat) : Int) ≤ m.same) = true := decide_eq_true (by omega)
        rw [this]; rfl
      have hsame : decide ((1 : Int) > m.same) = false := decide_eq_false (by have := isMk_same hm; omega)
      rw [hR.1, hR.2]
      clear hR hrb no
      have yes := yes hs
      simp -dsimp -implicitDefEqProofs only [pick_nil, pick_cons, look_nil, look_cons, dropB_nil, dropB_cons, inD_nil, inD_cons, inE_nil, inE_cons, or_t_l, or_f_l, Nat.reduceBEq, Nat.reduceDiv, Nat.reduceAdd, beq_self_eq_true, uq0, uq1, ↓reduceIte, Nat.reduceEqDiff, uq2, uq3]
      simp -dsimp -implicitDefEqProofs only [go_sem, ↓reduceIte, li, gi, g3]
      repeat' first
        | (refine Br.intro (fun _ => ?_) (fun _ => ?_) <;> try simp -dsimp -implicitDefEqProofs only [go_sem, ↓reduceIte, *])
        | (with_reducible refine And.intro ?_ ?_)
        | (refine Later.draw mixed rfl ?_; try simp -dsimp -implicitDefEqProofs only [go_sem, ↓reduceIte, li, gi, g3, hsame])
      all_goals first
        | exact yes
        | (first | omega | (refine ⟨?_, ?_⟩ <;> omega) | (simp; done) | (simp; omega) | (refine ⟨?_, ?_⟩ <;> omega) | rfl | (simp; done) | (simp_all; done) | (simp_all; omega) | (exfalso; simp_all [bne]; done) | trace_state)
    · have hi' : i - 1 < c.length := by omega
      have e2 := hel c[i - 1] (List.getElem_mem hi')
      have g2 : c[((i : Int) - 1).toNat]? = some c[i - 1] := by rw [pred_toNat hi0]; exact get_some hi'
      have g3 : decide ((i : Int) > 0) = true := by simp; omega
      have hs : stepAt m c i = !decide (absN (c[i] - c[i - 1]) > m.step) := by
        rw [stepAt, show (i == 0) = false by simp; omega]
        have q1 : c.getD i 0 = c[i] := by simp [List.getD_eq_getElem?_getD, hi]
        have q2 : c.getD (i - 1) 0 = c[i - 1] := by simp [List.getD_eq_getElem?_getD, hi']
        rw [q1, q2, Bool.false_or]
        by_cases hq : absN (c[i] - c[i - 1]) ≤ m.step
        · rw [decide_eq_true hq, decide_eq_false (by omega)]; rfl
        · rw [decide_eq_false hq, decide_eq_true (by omega)]; rfl
      have hR : ((runTo c (i + 1) : Nat) : Int) = if (c[i] == c[i - 1]) = true then (runTo c i : Int) + 1 else 0 + 1 := by
        obtain ⟨j, rfl⟩ : ∃ j, i = j + 1 := ⟨i - 1, by omega⟩
        rw [show runTo c (j + 1 + 1) = runAt c (j + 1) from rfl, show runTo c (j + 1) = runAt c j from rfl, runAt]
        simp only [Nat.add_sub_cancel]
        have q1 : c.getD (j + 1) 0 = c[j + 1] := by simp [List.getD_eq_getElem?_getD, hi]
        have q2 : c.getD j 0 = c[j] := by simp [List.getD_eq_getElem?_getD, show j < c.length by omega]
        rw [q1, q2]
        by_cases hq : c[j + 1] = c[j]
        · rw [if_pos hq, if_pos (by simpa using hq)]; simp
        · rw [if_neg hq, if_neg (by simpa using hq)]; simp
      have hok2 : okAt m c i = (!decide (((runTo c (i + 1) : Nat) : Int) > m.same) && !decide (absN (c[i] - c[i - 1]) > m.step)) := by
        rw [hok, hs]
        congr 1
        by_cases hq : ((runTo c (i + 1) : Nat) : Int) ≤ m.same
        · rw [decide_eq_true hq, decide_eq_false (by omega)]; rfl
        · rw [decide_eq_false hq, decide_eq_true (by omega)]; rfl
      clear hok hs
      rw [hok2] at no yes
      clear hok2
      have habs := c_l01Abs (c[i] - c[i - 1]) (by omega)
      rcases hq1 : (c[i] == c[i - 1]) with _ | _
      all_goals
        rw [hq1] at hR
        simp only [if_true, uq0, if_false] at hR
        have hne : (c[i] != c[i - 1]) = !(c[i] == c[i - 1]) := rfl
        rw [hq1] at hne
        rw [hR] at no yes
        rcases hq2 : decide (absN (c[i] - c[i - 1]) > m.step) with _ | _
      all_goals
        first
          | (rcases hq3 : decide ((runTo c i : Int) + 1 > m.same) with _ | _)
          | skip
      all_goals
        generalize runTo c i = R at *
        generalize runTo c (i + 1) = R' at *
        simp -dsimp -implicitDefEqProofs only [pick_nil, pick_cons, look_nil, look_cons, dropB_nil, dropB_cons, inD_nil, inD_cons, inE_nil, inE_cons, or_t_l, or_f_l, Nat.reduceBEq, Nat.reduceDiv, Nat.reduceAdd, beq_self_eq_true, uq0, uq1, ↓reduceIte, Nat.reduceEqDiff, uq2, uq3]
        try rw [hR]
        simp -dsimp -implicitDefEqProofs only [go_sem, ↓reduceIte, li, gi, g2, g3]
        repeat' first
          | (refine Br.intro (fun _ => ?_) (fun _ => ?_) <;> try simp -dsimp -implicitDefEqProofs only [go_sem, ↓reduceIte, *])
          | (with_reducible refine And.intro ?_ ?_)
          | (refine Later.draw mixed rfl ?_; try simp -dsimp -implicitDefEqProofs only [go_sem, ↓reduceIte, li, gi, g2, g3])
          | (refine sCallX_one (habs) ?_; try simp -dsimp -implicitDefEqProofs only [go_sem, ↓reduceIte, *])
        all_goals first
          | (rw [no (by simp_all)]; done)
          | (rw [← List.range_succ]; exact yes (by simp_all))
          | (first | omega | (refine ⟨?_, ?_⟩ <;> omega) | (simp; done) | (simp; omega) | (refine ⟨?_, ?_⟩ <;> omega) | rfl | (simp; done) | (simp_all; done) | (simp_all; omega) | (exfalso; simp_all [bne]; done) | trace_state)
  · rw [← hF] at hI
    rw [hI]
    simp -dsimp -implicitDefEqProofs only [pick_nil, pick_cons, look_nil, look_cons, dropB_nil, dropB_cons, inD_nil, inD_cons, inE_nil, inE_cons, or_t_l, or_f_l, Nat.reduceBEq, Nat.reduceDiv, Nat.reduceAdd, beq_self_eq_true, uq0, uq1, ↓reduceIte, Nat.reduceEqDiff, uq2, uq3]
    simp -dsimp -implicitDefEqProofs only [go_sem, ↓reduceIte, nlt_len]
end Go.Vc


set_option linter.unusedVariables false
set_option linter.unusedSimpArgs false
set_option linter.unnecessarySimpa false
namespace Go.Vc
open Go.Proofs
set_option maxRecDepth 100000
set_option maxHeartbeats 2000000
def firstD (f : Nat → Option (List Int)) : Nat → Option (List Int)
  | 0 => none
  | d + 1 => match firstD f d with
    | some k => some k
    | none => f d
def firstK (m : MkM) : Nat → List Int → Option (List Int)
  | 0, c => if okTo m c = true ∧ m.least ≤ (kindsTo c c.length : Int) then some c else none
  | n + 1, c => if okTo m c = true then firstD (fun (d : Nat) => firstK m n (c ++ [(d : Int)])) m.depths.toNat else none
theorem firstD_out {f : Nat → Option (List Int)} {k : List Int} : ∀ {D : Nat}, firstD f D = some k → ∃ d, d < D ∧ f d = some k
  | D + 1, h => by
    simp only [firstD] at h
    cases hh : firstD f D with
    | some k' =>
      rw [hh] at h
      obtain ⟨d, h1, h2⟩ := firstD_out hh
      exact ⟨d, by omega, h2.trans h⟩
    | none => rw [hh] at h; exact ⟨D, by omega, h⟩
theorem firstD_none {f : Nat → Option (List Int)} {D : Nat} (h : firstD f D = none) : firstD f (D + 1) = f D := by simp [firstD, h]
theorem firstD_some {f : Nat → Option (List Int)} {D : Nat} {k : List Int} (h : firstD f D = some k) : ∀ E, D ≤ E → firstD f E = some k
  | 0, hE => by rw [show D = 0 by omega] at h; cases h
  | E + 1, hE => by
    by_cases e : D = E + 1
    · rw [← e]; exact h
    · simp only [firstD]; rw [firstD_some h E (by omega)]
def optR (o : Option (List Int)) : AV := match o with
  | some k => .tup [eIs k, eB true]
  | none => .tup [.val (.slice none 0 0), eB false]
def firstR (m : MkM) (n : Nat) (c : List Int) (r : AV) : Prop := match firstK m n c with
  | some k => r = .tup [eIs k, eB true]
  | none => ∃ x, r = .tup [x, eB false] ∧ (x = .val (.slice none 0 0) ∨ x = eIs c)
theorem c_l02First (m : MkM) (hm : isMk m = true) : ∀ (n : Nat) (c : List Int), (c.length : Int) + n = m.chambers → (∀ x ∈ c, 0 ≤ x ∧ x ≤ 7) → Fn Tryz.prog 138 [eMk m, eIs c] false (firstR m n c) := by
  intro n
  have ⟨⟨hch1, hch2⟩, hd1, hd2⟩ := isMk_num hm
  induction n with
  | zero =>
    intro c hl hc
    refine Fn.of_vcS 42 [.tmp 4, .tmp 5] Tryz.func138 rfl rfl rfl rfl rfl (of_decide_eq_true rfl) ?_
    have hbe := c_l02Begins m c hm (by omega) hc
    have hk : ((c.length : Int) == m.chambers) = true := beq_iff_eq.2 (by omega)
    have hki := c_l02Kinds c (by omega)
    unfold firstR
    rcases hb : okTo m c with _ | _
    · have hcnt : firstK m 0 c = none := by rw [firstK, if_neg (by rw [hb]; exact fun h => by cases h.1)]
      rw [hb] at hbe
      rw [hcnt]
      clear hcnt hb
      simp -dsimp -implicitDefEqProofs only [go_sem, ↓reduceIte]
      (refine sCallT_one (hbe) ?_; try simp -dsimp -implicitDefEqProofs only [go_sem, ↓reduceIte, *])
      exact ⟨_, rfl, .inl rfl⟩
    · rw [hb] at hbe
      rcases hq : decide ((kindsTo c c.length : Int) ≥ m.least) with _ | _
      · have hcnt : firstK m 0 c = none := by rw [firstK, if_neg (fun h => by have := of_decide_eq_false hq; omega)]
        rw [hcnt]
        clear hcnt hb
        simp -dsimp -implicitDefEqProofs only [go_sem, ↓reduceIte]
        (refine sCallT_one (hbe) ?_; try simp -dsimp -implicitDefEqProofs only [go_sem, ↓reduceIte, *])
        refine Later.draw mixed rfl ?_
        simp -dsimp -implicitDefEqProofs only [go_sem, ↓reduceIte]
        (refine sCallX_one (hki) ?_; try simp -dsimp -implicitDefEqProofs only [go_sem, ↓reduceIte, *])
        exact ⟨by exact rfl, _, rfl, .inr rfl⟩
      · have hcnt : firstK m 0 c = some c := by rw [firstK, if_pos ⟨hb, by have := of_decide_eq_true hq; omega⟩]
        rw [hcnt]
        clear hcnt hb
        simp -dsimp -implicitDefEqProofs only [go_sem, ↓reduceIte]
        (refine sCallT_one (hbe) ?_; try simp -dsimp -implicitDefEqProofs only [go_sem, ↓reduceIte, *])
        refine Later.draw mixed rfl ?_
        simp -dsimp -implicitDefEqProofs only [go_sem, ↓reduceIte]
        (refine sCallX_one (hki) ?_; try simp -dsimp -implicitDefEqProofs only [go_sem, ↓reduceIte, *])
        exact rfl
  | succ n ih =>
    intro c hl hc
    refine Fn.of_vcS 42 [.tmp 4, .tmp 5] Tryz.func138 rfl rfl rfl rfl rfl (of_decide_eq_true rfl) ?_
    have hbe := c_l02Begins m c hm (by omega) hc
    have hk : ((c.length : Int) == m.chambers) = false := beq_eq_false_iff_ne.2 (by omega)
    unfold firstR
    rcases hb : okTo m c with _ | _
    · have hcnt : firstK m (n + 1) c = none := by rw [firstK, if_neg (by rw [hb]; exact fun h => by cases h)]
      rw [hb] at hbe
      rw [hcnt]
      clear hcnt hb
      simp -dsimp -implicitDefEqProofs only [go_sem, ↓reduceIte]
      (refine sCallT_one (hbe) ?_; try simp -dsimp -implicitDefEqProofs only [go_sem, ↓reduceIte, *])
      exact ⟨_, rfl, .inl rfl⟩
    · have hcnt : firstK m (n + 1) c = firstD (fun (d : Nat) => firstK m n (c ++ [(d : Int)])) m.depths.toNat := by rw [firstK, if_pos hb]
      rw [hb] at hbe
      rw [hcnt]
      clear hcnt hb
      have hown := c_l01Own c (by omega)
      simp -dsimp -implicitDefEqProofs only [go_sem, ↓reduceIte]
      (refine sCallT_one (hbe) ?_; try simp -dsimp -implicitDefEqProofs only [go_sem, ↓reduceIte, *])
      refine Later.up [1, 2] [33, 35, 36, 37] [] m.depths.toNat (fun i => firstD (fun (d : Nat) => firstK m n (c ++ [(d : Int)])) i = none) (fun i => [(6, eI i)]) (fun _ => []) rfl ?_ rfl (fun i hi hI => ?_) (fun hI => ?_)
      · simp -dsimp -implicitDefEqProofs only [go_sem, ↓reduceIte]
      · have hih := ih (c ++ [(i : Int)]) (by simp; omega) (fun x hx => by
          rcases List.mem_append.1 hx with h | h
          · exact hc x h
          · simp at h; omega)
        have hlt : decide ((i : Int) < m.depths) = true := decide_eq_true (by omega)
        have hmap : List.map eI c ++ [eI (i : Int)] = List.map eI (c ++ [(i : Int)]) := by simp
        have htk : List.take c.length (List.map eI c) = List.map eI c := List.take_of_length_le (by simp)
        have htl : List.take (c.length + 1) (List.map eI (c ++ [(i : Int)])) = List.map eI (c ++ [(i : Int)]) := List.take_of_length_le (by simp)
        have hnx := firstD_none hI
        have hend : ∀ k, firstK m n (c ++ [(i : Int)]) = some k → firstD (fun (d : Nat) => firstK m n (c ++ [(d : Int)])) m.depths.toNat = some k := fun k hk => firstD_some (hnx.trans hk) _ (by omega)
        rw [hnx]
        clear ih hI hnx
        unfold firstR at hih
        generalize firstK m n (c ++ [(i : Int)]) = F at *
        simp -dsimp -implicitDefEqProofs only [pick_nil, pick_cons, look_nil, look_cons, dropB_nil, dropB_cons, inD_nil, inD_cons, inE_nil, inE_cons, or_t_l, or_f_l, Nat.reduceBEq, Nat.reduceDiv, Nat.reduceAdd, beq_self_eq_true, uq0, uq1, ↓reduceIte, Nat.reduceEqDiff, uq2, uq3]
        simp -dsimp -implicitDefEqProofs only [go_sem, ↓reduceIte, hlt]
        refine Later.duo 6 mixed rfl ?_
        simp -dsimp -implicitDefEqProofs only [List.take_succ_cons, List.take_zero, List.drop_succ_cons, List.drop_zero]
        simp -dsimp -implicitDefEqProofs only [go_sem, ↓reduceIte]
        (refine sCallX_one (hown) ?_; try simp -dsimp -implicitDefEqProofs only [go_sem, ↓reduceIte, *])
        refine ⟨by omega, ?_⟩
        refine ⟨by exact rfl, ?_⟩
        refine sCallT_frz 34000 1 ⟨1, false⟩ true (List.map eI (c ++ [(i : Int)])) hih (by decide) ?_ ?_ fun r hr => ?_
        · simp -dsimp -implicitDefEqProofs only [go_sem, ↓reduceIte]
        · refine frzOk_no ?_ rfl ?_
          · simp -dsimp -implicitDefEqProofs only [go_sem, ↓reduceIte]
          · have h := frzOk_ref (l := 34000) (v := 1) (sh := ⟨1, false⟩) (ys := List.map eI (c ++ [(i : Int)])) (xs := []) (r := []) 0 (c.length + 1) (by simp) trivial
            rw [List.drop_zero, htl] at h
            exact h
        · cases F with
          | some k =>
            rw [hend k rfl]
            rw [show r = .tup [eIs k, eB true] from hr]
            clear hr hend
            simp -dsimp -implicitDefEqProofs only [go_sem, ↓reduceIte]
            exact rfl
          | none =>
            clear hend
            obtain ⟨x, rfl, hx⟩ := hr
            rcases hx with rfl | rfl
            · simp -dsimp -implicitDefEqProofs only [go_sem, ↓reduceIte]
              exact ⟨by exact rfl, ⟨by omega, by omega⟩, by simp⟩
            · simp -dsimp -implicitDefEqProofs only [go_sem, ↓reduceIte]
              exact ⟨by exact rfl, ⟨by omega, by omega⟩, by simp⟩
      · have hlt : decide (((m.depths.toNat : Nat) : Int) < m.depths) = false := decide_eq_false (by omega)
        rw [hI]
        clear hI
        simp -dsimp -implicitDefEqProofs only [pick_nil, pick_cons, look_nil, look_cons, dropB_nil, dropB_cons, inD_nil, inD_cons, inE_nil, inE_cons, or_t_l, or_f_l, Nat.reduceBEq, Nat.reduceDiv, Nat.reduceAdd, beq_self_eq_true, uq0, uq1, ↓reduceIte, Nat.reduceEqDiff, uq2, uq3]
        simp -dsimp -implicitDefEqProofs only [go_sem, ↓reduceIte, hlt]
        exact ⟨_, rfl, .inl rfl⟩
def nextTo (m : MkM) (c : List Int) : Nat → Option (List Int)
  | 0 => none
  | j + 1 => match nextTo m c j with
    | some k => some k
    | none => firstD (fun (e : Nat) => firstK m j (c.take (c.length - 1 - j) ++ [c.getD (c.length - 1 - j) 0 + 1 + (e : Int)])) (m.depths - (c.getD (c.length - 1 - j) 0 + 1)).toNat
theorem nextTo_none {m : MkM} {c : List Int} {j : Nat} (h : nextTo m c j = none) : nextTo m c (j + 1) = firstD (fun (e : Nat) => firstK m j (c.take (c.length - 1 - j) ++ [c.getD (c.length - 1 - j) 0 + 1 + (e : Int)])) (m.depths - (c.getD (c.length - 1 - j) 0 + 1)).toNat := by simp [nextTo, h]
theorem nextTo_some {m : MkM} {c k : List Int} {j : Nat} (h : nextTo m c j = some k) : ∀ E, j ≤ E → nextTo m c E = some k
  | 0, hE => by rw [show j = 0 by omega] at h; cases h
  | E + 1, hE => by
    by_cases e : j = E + 1
    · rw [← e]; exact h
    · simp only [nextTo]; rw [nextTo_some h E (by omega)]
theorem c_l02Next (m : MkM) (c : List Int) (hm : isMk m = true) (hl : (c.length : Int) = m.chambers) (hc : ∀ x ∈ c, 0 ≤ x ∧ x < m.depths) : Fn Tryz.prog 137 [eMk m, eIs c] false (· = optR (nextTo m c c.length)) := by
  have ⟨⟨hch1, hch2⟩, hd1, hd2⟩ := isMk_num hm
  refine Fn.of_vcS 42 [.tmp 4, .tmp 5] Tryz.func137 rfl rfl rfl rfl rfl (of_decide_eq_true rfl) ?_
  simp -dsimp -implicitDefEqProofs only [go_sem, ↓reduceIte]
  refine ⟨⟨by omega, by omega⟩, ?_⟩
  refine Later.up [1, 2] [33, 35, 36, 37] [] c.length (fun j => nextTo m c j = none) (fun j => [(6, eI ((c.length : Int) - 1 - (j : Int)))]) (fun _ => []) rfl ?_ rfl (fun j hj hJ => ?_) (fun hJ => ?_)
  · simp -dsimp -implicitDefEqProofs only [go_sem, ↓reduceIte]
    all_goals first | (simp; done) | trace_state
  · have hlt : decide ((c.length : Int) - 1 - (j : Int) ≥ 0) = true := decide_eq_true (by omega)
    have hnx := nextTo_none hJ
    have hend : ∀ k, nextTo m c (j + 1) = some k → nextTo m c c.length = some k := fun k hk => nextTo_some hk _ (by omega)
    have hi : c.length - 1 - j < c.length := by omega
    have hcast : (c.length : Int) - 1 - (j : Int) = ((c.length - 1 - j : Nat) : Int) := by omega
    have hx := hc c[c.length - 1 - j] (List.getElem_mem hi)
    have hgd : c.getD (c.length - 1 - j) 0 = c[c.length - 1 - j] := by simp [List.getD_eq_getElem?_getD, hi]
    have gi := get_some hi
    have hneg : (c.length : Int) - 1 - ((j + 1 : Nat) : Int) = ((c.length - 1 - j : Nat) : Int) - 1 := by omega
    rw [hgd] at hnx
    rw [hcast] at hlt
    rw [hcast, hneg]
    clear hJ hcast hgd hneg
    generalize hI : c.length - 1 - j = i at *
    generalize c[i] = z at *
    rw [hnx]
    have hend' : ∀ k, firstD (fun (e : Nat) => firstK m j (c.take i ++ [z + 1 + (e : Int)])) (m.depths - (z + 1)).toNat = some k → nextTo m c c.length = some k := fun k hk => hend k (hnx.trans hk)
    clear hnx hend
    simp -dsimp -implicitDefEqProofs only [pick_nil, pick_cons, look_nil, look_cons, dropB_nil, dropB_cons, inD_nil, inD_cons, inE_nil, inE_cons, or_t_l, or_f_l, Nat.reduceBEq, Nat.reduceDiv, Nat.reduceAdd, beq_self_eq_true, uq0, uq1, ↓reduceIte, Nat.reduceEqDiff, uq2, uq3]
    simp -dsimp -implicitDefEqProofs only [go_sem, ↓reduceIte, hlt, gi]
    refine ⟨by omega, ⟨by omega, by omega⟩, ?_⟩
    refine Later.up [1, 2, 6] [33, 35, 36, 37] [] (m.depths - (z + 1)).toNat (fun e => firstD (fun (e : Nat) => firstK m j (c.take i ++ [z + 1 + (e : Int)])) e = none) (fun e => [(7, eI (z + 1 + (e : Int)))]) (fun _ => []) rfl ?_ rfl (fun e he hE => ?_) (fun hE => ?_)
    · simp -dsimp -implicitDefEqProofs only [go_sem, ↓reduceIte]
      all_goals first | (simp; done) | trace_state
    · have hlt2 : decide (z + 1 + (e : Int) < m.depths) = true := decide_eq_true (by omega)
      have hlenT : (c.take i).length = i := by simp; omega
      have hih := c_l02First m hm j (c.take i ++ [z + 1 + (e : Int)]) (by simp; omega) (fun x hx2 => by
        rcases List.mem_append.1 hx2 with h | h
        · have := hc x (List.mem_of_mem_take h); omega
        · simp at h; omega)
      have hown := c_l01Own (c.take i) (by omega)
      have htk : List.take i (List.map eI c) = List.map eI (c.take i) := List.map_take.symm
      have hnx := firstD_none hE
      have hend2 : ∀ k, firstK m j (c.take i ++ [z + 1 + (e : Int)]) = some k → nextTo m c c.length = some k := fun k hk => hend' k (firstD_some (hnx.trans hk) _ (by omega))
      rw [hnx]
      clear hE hnx hend' hc
      unfold firstR at hih
      generalize c.take i = T at *
      have hmap : List.map eI T ++ [eI (z + 1 + (e : Int))] = List.map eI (T ++ [z + 1 + (e : Int)]) := by simp
      have htl : List.take (i + 1) (List.map eI (T ++ [z + 1 + (e : Int)])) = List.map eI (T ++ [z + 1 + (e : Int)]) := List.take_of_length_le (by simp; omega)
      have htl2 : List.take i (List.map eI T) = List.map eI T := List.take_of_length_le (by simp; omega)
      generalize firstK m j (T ++ [z + 1 + (e : Int)]) = F at *
      simp -dsimp -implicitDefEqProofs only [pick_nil, pick_cons, look_nil, look_cons, dropB_nil, dropB_cons, inD_nil, inD_cons, inE_nil, inE_cons, or_t_l, or_f_l, Nat.reduceBEq, Nat.reduceDiv, Nat.reduceAdd, beq_self_eq_true, uq0, uq1, ↓reduceIte, Nat.reduceEqDiff, uq2, uq3]
      simp -dsimp -implicitDefEqProofs only [go_sem, ↓reduceIte, hlt2]
      refine Later.duo 8 mixed rfl ?_
      simp -dsimp -implicitDefEqProofs only [List.take_succ_cons, List.take_zero, List.drop_succ_cons, List.drop_zero]
      simp -dsimp -implicitDefEqProofs only [go_sem, ↓reduceIte, htk]
      refine ⟨by omega, ?_⟩
      (refine sCallX_one (hown) ?_; try simp -dsimp -implicitDefEqProofs only [go_sem, ↓reduceIte, *])
      refine ⟨by omega, ?_⟩
      refine ⟨by exact rfl, ?_⟩
      refine sCallT_frz 34000 1 ⟨1, false⟩ true (List.map eI (T ++ [z + 1 + (e : Int)])) hih (by decide) ?_ ?_ fun r hr => ?_
      · simp -dsimp -implicitDefEqProofs only [go_sem, ↓reduceIte]
      · refine frzOk_no ?_ rfl ?_
        · simp -dsimp -implicitDefEqProofs only [go_sem, ↓reduceIte]
        · have h := frzOk_ref (l := 34000) (v := 1) (sh := ⟨1, false⟩) (ys := List.map eI (T ++ [z + 1 + (e : Int)])) (xs := []) (r := []) 0 (i + 1) (by simp; omega) trivial
          rw [List.drop_zero, htl] at h
          exact h
      · cases F with
        | some k =>
          rw [hend2 k rfl]
          rw [show r = .tup [eIs k, eB true] from hr]
          clear hr hend2
          simp -dsimp -implicitDefEqProofs only [go_sem, ↓reduceIte, optR]
          exact rfl
        | none =>
          clear hend2
          obtain ⟨x, rfl, hx⟩ := hr
          rcases hx with rfl | rfl
          · simp -dsimp -implicitDefEqProofs only [go_sem, ↓reduceIte]
            exact ⟨by exact rfl, ⟨by omega, by omega⟩, by simp; omega⟩
          · simp -dsimp -implicitDefEqProofs only [go_sem, ↓reduceIte]
            exact ⟨by exact rfl, ⟨by omega, by omega⟩, by simp; omega⟩
    · have hlt2 : decide (z + 1 + (((m.depths - (z + 1)).toNat : Nat) : Int) < m.depths) = false := decide_eq_false (by omega)
      rw [hE]
      simp -dsimp -implicitDefEqProofs only [pick_nil, pick_cons, look_nil, look_cons, dropB_nil, dropB_cons, inD_nil, inD_cons, inE_nil, inE_cons, or_t_l, or_f_l, Nat.reduceBEq, Nat.reduceDiv, Nat.reduceAdd, beq_self_eq_true, uq0, uq1, ↓reduceIte, Nat.reduceEqDiff, uq2, uq3]
      simp -dsimp -implicitDefEqProofs only [go_sem, ↓reduceIte, hlt2]
      first | exact ⟨by omega, by omega⟩ | trace_state
  · have hlt : decide ((c.length : Int) - 1 - (c.length : Int) ≥ 0) = false := decide_eq_false (by omega)
    rw [hJ]
    clear hJ
    simp -dsimp -implicitDefEqProofs only [pick_nil, pick_cons, look_nil, look_cons, dropB_nil, dropB_cons, inD_nil, inD_cons, inE_nil, inE_cons, or_t_l, or_f_l, Nat.reduceBEq, Nat.reduceDiv, Nat.reduceAdd, beq_self_eq_true, uq0, uq1, ↓reduceIte, Nat.reduceEqDiff, uq2, uq3]
    simp -dsimp -implicitDefEqProofs only [go_sem, ↓reduceIte, hlt, optR]
end Go.Vc


set_option linter.unusedVariables false
set_option linter.unusedSimpArgs false
set_option linter.unnecessarySimpa false
namespace Go.Vc
open Go.Proofs
set_option maxRecDepth 100000
set_option maxHeartbeats 4000000
def mkV (bs : List UInt8) (s : Src) : MkM × Src :=
  let a := nx bs 3 s
  let b := nx bs 3 a.2
  let c := nx bs (2 + b.1 - 1) b.2
  let d := nx bs (2 + a.1) c.2
  let e := nx bs 2 d.2
  (⟨2 + a.1, 2 + b.1, 1 + c.1, 1 + d.1, 1 + e.1⟩, e.2)
theorem mkV_ok (bs : List UInt8) {s : Src} (h : SrcOk s) : SrcOk (mkV bs s).2 ∧ isMk (mkV bs s).1 = true ∧ (mkV bs s).1.chambers ≤ 4 ∧ (mkV bs s).1.depths ≤ 4 := by
  have h1 := nx_ok bs 3 h
  have h2 := nx_ok bs 3 h1.2.2.2
  have h3 := nx_ok bs (2 + (nx bs 3 (nx bs 3 s).2).1 - 1) h2.2.2.2
  have h4 := nx_ok bs (2 + (nx bs 3 s).1) h3.2.2.2
  have h5 := nx_ok bs 2 h4.2.2.2
  dsimp only [mkV]
  generalize nx bs 3 s = a at *
  generalize nx bs 3 a.2 = b at *
  generalize nx bs (2 + b.1 - 1) b.2 = c at *
  generalize nx bs (2 + a.1) c.2 = d at *
  generalize nx bs 2 d.2 = e at *
  refine ⟨h5.2.2.2, ?_, by have := h1.2.2.1 (by omega); omega, by have := h2.2.2.1 (by omega); omega⟩
  have a1 := h1.2.2.1 (by omega)
  have b1 := h2.2.2.1 (by omega)
  have d1 := h4.2.2.1 (by omega)
  have e1 := h5.2.2.1 (by omega)
  have c1 : c.1 ≤ b.1 := by
    by_cases hb : b.1 = 0
    · have := h3.2.1 (by omega); omega
    · have := h3.2.2.1 (by omega); omega
  simp only [isMk, isIn, Bool.and_eq_true, decide_eq_true_eq]
  split <;> omega
theorem c_l02Valid (v : Nat) (bs : List UInt8) (s : Src) (h : SrcOk s) (hl : bs.length ≤ 4096) :
    FnM Tryz.prog 128 [srcB v bs s] [.ptr 1000000000 v 0 0] (fun x io => x = eMk (mkV bs s).1 ∧ io = [srcB v bs (mkV bs s).2]) := by
  refine FnM.of_vcN 34 [.cell 2 25] Tryz.func128 rfl rfl rfl rfl rfl (of_decide_eq_true rfl) ?_
  have h1 := nx_ok bs 3 h
  have h2 := nx_ok bs 3 h1.2.2.2
  have h3 := nx_ok bs (2 + (nx bs 3 (nx bs 3 s).2).1 - 1) h2.2.2.2
  have h4 := nx_ok bs (2 + (nx bs 3 s).1) h3.2.2.2
  have h5 := nx_ok bs 2 h4.2.2.2
  have q1 := fun v => c_l01Next v bs 3 s h hl
  have q2 := fun v => c_l01Next v bs 3 _ h1.2.2.2 hl
  have q3 := fun v => c_l01Next v bs (2 + (nx bs 3 (nx bs 3 s).2).1 - 1) _ h2.2.2.2 hl
  have q4 := fun v => c_l01Next v bs (2 + (nx bs 3 s).1) _ h3.2.2.2 hl
  have q5 := fun v => c_l01Next v bs 2 _ h4.2.2.2 hl
  dsimp only [mkV]
  generalize nx bs 3 s = a at *
  generalize nx bs 3 a.2 = b at *
  generalize nx bs (2 + b.1 - 1) b.2 = c at *
  generalize nx bs (2 + a.1) c.2 = d at *
  generalize nx bs 2 d.2 = e at *
  have a1 := h1.2.2.1 (by omega)
  have b1 := h2.2.2.1 (by omega)
  have d1 := h4.2.2.1 (by omega)
  have e1 := h5.2.2.1 (by omega)
  have a0 := h1.1
  have b0 := h2.1
  have c0 := h3.1
  have d0 := h4.1
  have e0 := h5.1
  have c1 : c.1 ≤ b.1 := by
    by_cases hb : b.1 = 0
    · have := h3.2.1 (by omega); omega
    · have := h3.2.2.1 (by omega); omega
  have m1 : (if 2 + a.1 < 2 then 2 + a.1 else 2) = (2 : Int) := if_neg (by omega)
  have m2 : (if 2 + b.1 < 2 then 2 + b.1 else 2) = (2 : Int) := if_neg (by omega)
  clear h1 h2 h3 h4 h5
  simp -dsimp -implicitDefEqProofs only [go_sem, ↓reduceIte]
  (refine sCallT_io [1000000000] ?_; simp -dsimp -implicitDefEqProofs only [go_sem, ↓reduceIte]; refine sCallM_one (q1 _) ?_; simp -dsimp -implicitDefEqProofs only [go_sem, ↓reduceIte])
  ((repeat' (with_reducible refine And.intro ?_ ?_)); all_goals try (first | omega | (refine ⟨?_, ?_⟩ <;> omega) | (exact rfl)))
  (refine sCallT_io [1000000000] ?_; simp -dsimp -implicitDefEqProofs only [go_sem, ↓reduceIte]; refine sCallM_one (q2 _) ?_; simp -dsimp -implicitDefEqProofs only [go_sem, ↓reduceIte])
  ((repeat' (with_reducible refine And.intro ?_ ?_)); all_goals try (first | omega | (refine ⟨?_, ?_⟩ <;> omega) | (exact rfl)))
  (refine sCallT_io [1000000000] ?_; simp -dsimp -implicitDefEqProofs only [go_sem, ↓reduceIte]; refine sCallM_one (q3 _) ?_; simp -dsimp -implicitDefEqProofs only [go_sem, ↓reduceIte])
  ((repeat' (with_reducible refine And.intro ?_ ?_)); all_goals try (first | omega | (refine ⟨?_, ?_⟩ <;> omega) | (exact rfl)))
  (refine sCallT_io [1000000000] ?_; simp -dsimp -implicitDefEqProofs only [go_sem, ↓reduceIte]; refine sCallM_one (q4 _) ?_; simp -dsimp -implicitDefEqProofs only [go_sem, ↓reduceIte])
  ((repeat' (with_reducible refine And.intro ?_ ?_)); all_goals try (first | omega | (refine ⟨?_, ?_⟩ <;> omega) | (exact rfl)))
  simp only [m1, m2]
  (refine sCallT_io [1000000000] ?_; simp -dsimp -implicitDefEqProofs only [go_sem, ↓reduceIte]; refine sCallM_one (q5 _) ?_; simp -dsimp -implicitDefEqProofs only [go_sem, ↓reduceIte])
  ((repeat' (with_reducible refine And.intro ?_ ?_)); all_goals try (first | omega | (refine ⟨?_, ?_⟩ <;> omega) | (exact rfl)))
  all_goals trace_state
def mkD (bs : List UInt8) (s : Src) : MkM × Src :=
  let v := mkV bs s
  let m := v.1
  let n := nx bs 30 v.2
  if n.1 = 0 then (⟨(pk bs [1, 6, 7] n.2).1, m.depths, m.step, m.same, m.least⟩, (pk bs [1, 6, 7] n.2).2)
  else if n.1 = 1 then (⟨m.chambers, (pk bs [1, 8, 9] n.2).1, m.step, m.same, m.least⟩, (pk bs [1, 8, 9] n.2).2)
  else if n.1 = 2 then (⟨m.chambers, m.depths, (pk bs [0, m.depths - 1, m.depths] n.2).1, m.same, m.least⟩, (pk bs [0, m.depths - 1, m.depths] n.2).2)
  else if n.1 = 3 then (⟨m.chambers, m.depths, m.step, (pk bs [0, m.chambers, m.chambers + 1] n.2).1, m.least⟩, (pk bs [0, m.chambers, m.chambers + 1] n.2).2)
  else if n.1 = 4 then (⟨m.chambers, m.depths, m.step, m.same, (pk bs [0, (if m.depths < m.chambers then m.depths else m.chambers), (if m.depths < m.chambers then m.depths else m.chambers) + 1] n.2).1⟩, (pk bs [0, (if m.depths < m.chambers then m.depths else m.chambers), (if m.depths < m.chambers then m.depths else m.chambers) + 1] n.2).2)
  else if n.1 = 5 then (⟨6, 4 + (nx bs 2 n.2).1, 2 + (nx bs 2 (nx bs 2 n.2).2).1, 2, 3⟩, (nx bs 2 (nx bs 2 n.2).2).2)
  else (m, n.2)
theorem mkD_ok (bs : List UInt8) {s : Src} (h : SrcOk s) : SrcOk (mkD bs s).2 := by
  have hv := (mkV_ok bs h).1
  have hn := (nx_ok bs 30 hv).2.2.2
  dsimp only [mkD]
  generalize mkV bs s = v at *
  generalize nx bs 30 v.2 = n at *
  have h2 := (nx_ok bs 2 hn).2.2.2
  have h3 := (nx_ok bs 2 h2).2.2.2
  split
  · exact pk_ok bs _ hn
  split
  · exact pk_ok bs _ hn
  split
  · exact pk_ok bs _ hn
  split
  · exact pk_ok bs _ hn
  split
  · exact pk_ok bs _ hn
  split
  · exact h3
  · exact hn
theorem c_l02Draw (v : Nat) (bs : List UInt8) (s : Src) (h : SrcOk s) (hl : bs.length ≤ 4096) :
    FnM Tryz.prog 98 [srcB v bs s] [.ptr 1000000000 v 0 0] (fun x io => x = eMk (mkD bs s).1 ∧ io = [srcB v bs (mkD bs s).2]) := by
  refine FnM.of_vcN 69 [.cell 2 25] Tryz.func98 rfl rfl rfl rfl rfl (of_decide_eq_true rfl) ?_
  obtain ⟨hv, hm, hc4, hd4⟩ := mkV_ok bs h
  have hnum := isMk_num hm
  have hn := nx_ok bs 30 hv
  have q1 := fun v => c_l02Valid v bs s h hl
  have q2 := fun v => c_l01Next v bs 30 _ hv hl
  dsimp only [mkD]
  generalize mkV bs s = p at *
  obtain ⟨m, s1⟩ := p
  dsimp only at *
  generalize nx bs 30 s1 = n at *
  obtain ⟨n0, n1, n2, n3⟩ := hn
  have n2 := n2 (by omega)
  simp -dsimp -implicitDefEqProofs only [go_sem, ↓reduceIte]
  (refine sCallT_io [1000000000] ?_; simp -dsimp -implicitDefEqProofs only [go_sem, ↓reduceIte]; refine sCallM_one (q1 _) ?_; simp -dsimp -implicitDefEqProofs only [go_sem, ↓reduceIte])
  (refine sCallT_io [1000000000] ?_; simp -dsimp -implicitDefEqProofs only [go_sem, ↓reduceIte]; refine sCallM_one (q2 _) ?_; simp -dsimp -implicitDefEqProofs only [go_sem, ↓reduceIte])
  rcases b0 : (n.1 == 0) with _ | _
  rotate_left
  · have e0 : n.1 = 0 := beq_iff_eq.1 b0
    rw [if_pos e0]
    have qp := fun v v2 => c_l01Pick v v2 true bs [1, 6, 7] _ n.2 rfl (by simp) (by simp) n3 hl
    generalize pk bs [1, 6, 7] n.2 = pp at *
    clear e0
    simp -dsimp -implicitDefEqProofs only [go_sem, ↓reduceIte, b0]
    ((repeat' (with_reducible refine And.intro ?_ ?_)); all_goals try (first | omega | (refine ⟨?_, ?_⟩ <;> omega) | (exact rfl)))
    (refine sCallT_io [1000000000, 11] ?_; simp -dsimp -implicitDefEqProofs only [go_sem, ↓reduceIte]; refine sCallM_one (qp _ _) ?_; simp -dsimp -implicitDefEqProofs only [go_sem, ↓reduceIte])
    ((repeat' (with_reducible refine And.intro ?_ ?_)); all_goals try (first | omega | (refine ⟨?_, ?_⟩ <;> omega) | (exact rfl)))
    all_goals trace_state
  rw [if_neg (beq_eq_false_iff_ne.1 b0)]
  rcases b1 : (n.1 == 1) with _ | _
  rotate_left
  · have e1 : n.1 = 1 := beq_iff_eq.1 b1
    rw [if_pos e1]
    have qp := fun v v2 => c_l01Pick v v2 true bs [1, 8, 9] _ n.2 rfl (by simp) (by simp) n3 hl
    generalize pk bs [1, 8, 9] n.2 = pp at *
    clear e1
    simp -dsimp -implicitDefEqProofs only [go_sem, ↓reduceIte, b0, b1]
    ((repeat' (with_reducible refine And.intro ?_ ?_)); all_goals try (first | omega | (refine ⟨?_, ?_⟩ <;> omega) | (exact rfl)))
    (refine sCallT_io [1000000000, 17] ?_; simp -dsimp -implicitDefEqProofs only [go_sem, ↓reduceIte]; refine sCallM_one (qp _ _) ?_; simp -dsimp -implicitDefEqProofs only [go_sem, ↓reduceIte])
    ((repeat' (with_reducible refine And.intro ?_ ?_)); all_goals try (first | omega | (refine ⟨?_, ?_⟩ <;> omega) | (exact rfl)))
    all_goals trace_state
  rw [if_neg (beq_eq_false_iff_ne.1 b1)]
  rcases b2 : (n.1 == 2) with _ | _
  rotate_left
  · have e2 : n.1 = 2 := beq_iff_eq.1 b2
    rw [if_pos e2]
    have qp := fun v v2 => c_l01Pick v v2 true bs [0, m.depths - 1, m.depths] _ n.2 rfl (by simp) (by simp) n3 hl
    generalize pk bs [0, m.depths - 1, m.depths] n.2 = pp at *
    clear e2
    simp -dsimp -implicitDefEqProofs only [go_sem, ↓reduceIte, b0, b1, b2]
    ((repeat' (with_reducible refine And.intro ?_ ?_)); all_goals try (first | omega | (refine ⟨?_, ?_⟩ <;> omega) | (exact rfl)))
    (refine sCallT_io [1000000000, 28] ?_; simp -dsimp -implicitDefEqProofs only [go_sem, ↓reduceIte]; refine sCallM_one (qp _ _) ?_; simp -dsimp -implicitDefEqProofs only [go_sem, ↓reduceIte])
    ((repeat' (with_reducible refine And.intro ?_ ?_)); all_goals try (first | omega | (refine ⟨?_, ?_⟩ <;> omega) | (exact rfl)))
    all_goals trace_state
  rw [if_neg (beq_eq_false_iff_ne.1 b2)]
  rcases b3 : (n.1 == 3) with _ | _
  rotate_left
  · have e3 : n.1 = 3 := beq_iff_eq.1 b3
    rw [if_pos e3]
    have qp := fun v v2 => c_l01Pick v v2 true bs [0, m.chambers, m.chambers + 1] _ n.2 rfl (by simp) (by simp) n3 hl
    generalize pk bs [0, m.chambers, m.chambers + 1] n.2 = pp at *
    clear e3
    simp -dsimp -implicitDefEqProofs only [go_sem, ↓reduceIte, b0, b1, b2, b3]
    ((repeat' (with_reducible refine And.intro ?_ ?_)); all_goals try (first | omega | (refine ⟨?_, ?_⟩ <;> omega) | (exact rfl)))
    (refine sCallT_io [1000000000, 39] ?_; simp -dsimp -implicitDefEqProofs only [go_sem, ↓reduceIte]; refine sCallM_one (qp _ _) ?_; simp -dsimp -implicitDefEqProofs only [go_sem, ↓reduceIte])
    ((repeat' (with_reducible refine And.intro ?_ ?_)); all_goals try (first | omega | (refine ⟨?_, ?_⟩ <;> omega) | (exact rfl)))
    all_goals trace_state
  rw [if_neg (beq_eq_false_iff_ne.1 b3)]
  rcases b4 : (n.1 == 4) with _ | _
  rotate_left
  · have e4 : n.1 = 4 := beq_iff_eq.1 b4
    rw [if_pos e4]
    have qp := fun v v2 => c_l01Pick v v2 true bs [0, (if m.depths < m.chambers then m.depths else m.chambers), (if m.depths < m.chambers then m.depths else m.chambers) + 1] _ n.2 rfl (by simp) (by simp) n3 hl
    generalize pk bs [0, (if m.depths < m.chambers then m.depths else m.chambers), (if m.depths < m.chambers then m.depths else m.chambers) + 1] n.2 = pp at *
    clear e4
    simp -dsimp -implicitDefEqProofs only [go_sem, ↓reduceIte, b0, b1, b2, b3, b4]
    ((repeat' (with_reducible refine And.intro ?_ ?_)); all_goals try (first | omega | (refine ⟨?_, ?_⟩ <;> omega) | (exact rfl)))
    (refine sCallT_io [1000000000, 56] ?_; simp -dsimp -implicitDefEqProofs only [go_sem, ↓reduceIte]; refine sCallM_one (qp _ _) ?_; simp -dsimp -implicitDefEqProofs only [go_sem, ↓reduceIte])
    ((repeat' (with_reducible refine And.intro ?_ ?_)); all_goals try (first | omega | (refine ⟨?_, ?_⟩ <;> omega) | (exact rfl)))
    all_goals trace_state
  rw [if_neg (beq_eq_false_iff_ne.1 b4)]
  rcases b5 : (n.1 == 5) with _ | _
  rotate_left
  · have e5 : n.1 = 5 := beq_iff_eq.1 b5
    rw [if_pos e5]
    have x1 := nx_ok bs 2 n3
    have x2 := nx_ok bs 2 x1.2.2.2
    have qa := fun v => c_l01Next v bs 2 _ n3 hl
    have qb := fun v => c_l01Next v bs 2 _ x1.2.2.2 hl
    generalize nx bs 2 n.2 = A at *
    generalize nx bs 2 A.2 = Bq at *
    have x3 := x1.2.2.1 (by omega)
    have x4 := x2.2.2.1 (by omega)
    have x5 := x1.1
    have x6 := x2.1
    clear e5 x1 x2
    simp -dsimp -implicitDefEqProofs only [go_sem, ↓reduceIte, b0, b1, b2, b3, b4, b5]
    (refine sCallT_io [1000000000] ?_; simp -dsimp -implicitDefEqProofs only [go_sem, ↓reduceIte]; refine sCallM_one (qa _) ?_; simp -dsimp -implicitDefEqProofs only [go_sem, ↓reduceIte])
    ((repeat' (with_reducible refine And.intro ?_ ?_)); all_goals try (first | omega | (refine ⟨?_, ?_⟩ <;> omega) | (exact rfl)))
    (refine sCallT_io [1000000000] ?_; simp -dsimp -implicitDefEqProofs only [go_sem, ↓reduceIte]; refine sCallM_one (qb _) ?_; simp -dsimp -implicitDefEqProofs only [go_sem, ↓reduceIte])
    ((repeat' (with_reducible refine And.intro ?_ ?_)); all_goals try (first | omega | (refine ⟨?_, ?_⟩ <;> omega) | (exact rfl)))
    all_goals trace_state
  rw [if_neg (beq_eq_false_iff_ne.1 b5)]
  simp -dsimp -implicitDefEqProofs only [go_sem, ↓reduceIte, b0, b1, b2, b3, b4, b5]
  ((repeat' (with_reducible refine And.intro ?_ ?_)); all_goals try (first | omega | (refine ⟨?_, ?_⟩ <;> omega) | (exact rfl)))
  all_goals trace_state
end Go.Vc


set_option linter.unusedVariables false
set_option linter.unusedSimpArgs false
set_option linter.unnecessarySimpa false
namespace Go.Vc
open Go.Proofs
set_option maxRecDepth 100000
set_option maxHeartbeats 4000000
theorem firstD_not {f : Nat → Option (List Int)} {d : Nat} (h : f d ≠ none) : ∀ D, d < D → firstD f D ≠ none
  | 0, hd => absurd hd (Nat.not_lt_zero _)
  | D + 1, hd => by
    simp only [firstD]
    cases hh : firstD f D with
    | some k => exact fun h => by cases h
    | none =>
      by_cases e : d = D
      · subst e; exact h
      · exact absurd hh (firstD_not h D (by omega))
theorem firstK_not {m : MkM} : ∀ (n : Nat) (c t : List Int), t.length = n → okTo m (c ++ t) = true → m.least ≤ (kindsTo (c ++ t) (c ++ t).length : Int) → (∀ x ∈ t, 0 ≤ x ∧ x < m.depths) → firstK m n c ≠ none
  | 0, c, t, hl, ho, hk, hx => by
    obtain rfl := List.eq_nil_of_length_eq_zero hl
    rw [List.append_nil] at ho hk
    rw [firstK, if_pos ⟨ho, hk⟩]
    exact fun h => by cases h
  | n + 1, c, t, hl, ho, hk, hx => by
    cases t with
    | nil => cases hl
    | cons d t =>
      have hd := hx d (List.mem_cons_self ..)
      have hoc : okTo m c = true := by
        have := okTo_take' ho (i := c.length) (by simp)
        rwa [List.take_left'] at this
        rfl
      rw [firstK, if_pos hoc]
      refine firstD_not (d := d.toNat) ?_ _ (by omega)
      have e : ((d.toNat : Nat) : Int) = d := by omega
      rw [e]
      have e2 : c ++ d :: t = (c ++ [d]) ++ t := by simp
      rw [e2] at ho hk
      exact firstK_not n (c ++ [d]) t (by simpa using hl) ho hk fun x hx2 => hx x (List.mem_cons_of_mem _ hx2)
theorem firstK_len {m : MkM} : ∀ (n : Nat) (c k : List Int), firstK m n c = some k → k.length = c.length + n ∧ okTo m k = true ∧ (m.least ≤ (kindsTo k k.length : Int)) ∧ ((∀ x ∈ c, 0 ≤ x ∧ x < m.depths) → ∀ x ∈ k, 0 ≤ x ∧ x < m.depths)
  | 0, c, k, h => by
    rw [firstK] at h
    split at h
    · rename_i hc
      injection h with h
      subst h
      exact ⟨rfl, hc.1, hc.2, fun h => h⟩
    · cases h
  | n + 1, c, k, h => by
    rw [firstK] at h
    split at h
    · obtain ⟨d, h1, h2⟩ := firstD_out h
      obtain ⟨g1, g2, g3, g4⟩ := firstK_len n _ k h2
      refine ⟨by rw [g1]; simp; omega, g2, g3, fun hc => g4 fun x hx => ?_⟩
      rcases List.mem_append.1 hx with h | h
      · exact hc x h
      · simp at h; omega
    · cases h
def zig (ch dp : Int) : List Int := (([0, 1, 2, 3, 4, 5] : List Int).map fun x => if x < dp then x else if (x - dp).tmod 2 = 0 then dp - 2 else dp - 1).take ch.toNat
def zigB (C D : Int) : Bool :=
  (zig C D).length == C.toNat && (List.range (zig C D).length).all (fun i => decide (runAt (zig C D) i ≤ 1) && (i == 0 || decide (absN ((zig C D).getD i 0 - (zig C D).getD (i - 1) 0) ≤ 1))) &&
    decide ((if D < C then D else C) ≤ (kindsTo (zig C D) (zig C D).length : Int)) && (zig C D).all fun x => decide (0 ≤ x) && decide (x < D)
theorem zigB_all : ((List.range 5).all fun c => (List.range 7).all fun d => zigB ((c : Int) + 2) ((d : Int) + 2)) = true := by decide +kernel
theorem zig_ok {m : MkM} (hm : isMk m = true) : (zig m.chambers m.depths).length = m.chambers.toNat ∧ okTo m (zig m.chambers m.depths) = true ∧ m.least ≤ (kindsTo (zig m.chambers m.depths) (zig m.chambers m.depths).length : Int) ∧ ∀ x ∈ zig m.chambers m.depths, 0 ≤ x ∧ x < m.depths := by
  have hnum := isMk_num hm
  have hs := isMk_same hm
  have hl : m.least ≤ if m.depths < m.chambers then m.depths else m.chambers := by
    simp only [isMk, isIn, Bool.and_eq_true, decide_eq_true_eq] at hm
    exact hm.2.2
  have h1 := List.all_eq_true.1 zigB_all (m.chambers.toNat - 2) (List.mem_range.2 (by omega))
  have h2 := List.all_eq_true.1 h1 (m.depths.toNat - 2) (List.mem_range.2 (by omega))
  rw [show ((m.chambers.toNat - 2 : Nat) : Int) + 2 = m.chambers by omega, show ((m.depths.toNat - 2 : Nat) : Int) + 2 = m.depths by omega] at h2
  unfold zigB at h2
  simp only [Bool.and_eq_true, beq_iff_eq, decide_eq_true_eq] at h2
  obtain ⟨⟨⟨g1, g2⟩, g3⟩, g4⟩ := h2
  generalize zig m.chambers m.depths = z at *
  refine ⟨g1, ?_, by omega, fun x hx => ?_⟩
  · unfold okTo
    rw [List.all_eq_true] at g2 ⊢
    intro i hi
    have := g2 i hi
    simp only [Bool.and_eq_true, decide_eq_true_eq, Bool.or_eq_true, beq_iff_eq] at this ⊢
    refine ⟨by omega, ?_⟩
    unfold stepAt
    rcases this.2 with h | h
    · simp [h]
    · rw [decide_eq_true (show absN (z.getD i 0 - z.getD (i - 1) 0) ≤ m.step by omega)]; simp
  · have := List.all_eq_true.1 g4 x hx
    simpa using this
theorem firstK_some {m : MkM} (hm : isMk m = true) : ∃ k, firstK m m.chambers.toNat [] = some k := by
  obtain ⟨h1, h2, h3, h4⟩ := zig_ok hm
  have := firstK_not m.chambers.toNat [] (zig m.chambers m.depths) h1 h2 h3 h4
  cases hh : firstK m m.chambers.toNat [] with
  | some k => exact ⟨k, rfl⟩
  | none => exact absurd hh this
theorem nextTo_len {m : MkM} {c k : List Int} (hl : (c.length : Int) = m.chambers) (hc : ∀ x ∈ c, 0 ≤ x ∧ x < m.depths) : ∀ j, j ≤ c.length → nextTo m c j = some k → k.length = c.length ∧ okTo m k = true ∧ m.least ≤ (kindsTo k k.length : Int) ∧ ∀ x ∈ k, 0 ≤ x ∧ x < m.depths
  | 0, _, h => by cases h
  | j + 1, hj, h => by
    cases hh : nextTo m c j with
    | some k' =>
      rw [nextTo_some hh (j + 1) (by omega)] at h
      injection h with h
      subst h
      exact nextTo_len hl hc j (by omega) hh
    | none =>
      rw [nextTo_none hh] at h
      obtain ⟨e, h1, h2⟩ := firstD_out h
      obtain ⟨g1, g2, g3, g4⟩ := firstK_len j _ k h2
      have hi : c.length - 1 - j < c.length := by omega
      have hx := hc c[c.length - 1 - j] (List.getElem_mem hi)
      have hgd : c.getD (c.length - 1 - j) 0 = c[c.length - 1 - j] := by simp [List.getD_eq_getElem?_getD, hi]
      rw [hgd] at h1 g1 g4
      refine ⟨by rw [g1]; simp; omega, g2, g3, g4 fun x hx2 => ?_⟩
      rcases List.mem_append.1 hx2 with h | h
      · exact hc x (List.mem_of_mem_take h)
      · simp at h; omega
end Go.Vc


set_option linter.unusedVariables false
set_option linter.unusedSimpArgs false
set_option linter.unnecessarySimpa false
namespace Go.Vc
open Go.Proofs
set_option maxRecDepth 100000
set_option maxHeartbeats 4000000
def cutsTo (bs : List UInt8) (D : Int) (s : Src) : Nat → List Int × Src
  | 0 => ([], s)
  | i + 1 => ((cutsTo bs D s i).1 ++ [(nx bs D (cutsTo bs D s i).2).1], (nx bs D (cutsTo bs D s i).2).2)
theorem cutsTo_ok {bs : List UInt8} {D : Int} {s : Src} (h : SrcOk s) (hD : 2 ≤ D) : ∀ i, SrcOk (cutsTo bs D s i).2 ∧ (cutsTo bs D s i).1.length = i ∧ ∀ x ∈ (cutsTo bs D s i).1, 0 ≤ x ∧ x < D
  | 0 => ⟨h, rfl, fun x hx => by cases hx⟩
  | i + 1 => by
    obtain ⟨h1, h2, h3⟩ := cutsTo_ok h hD i (bs := bs)
    have hn := nx_ok bs D h1
    refine ⟨hn.2.2.2, by simp [cutsTo, h2], fun x hx => ?_⟩
    simp only [cutsTo] at hx
    rcases List.mem_append.1 hx with h | h
    · exact h3 x h
    · simp at h; rw [h]; exact ⟨hn.1, hn.2.2.1 (by omega)⟩
def someK (m : MkM) (c : List Int) : List Int := match nextTo m c c.length with
  | some k => k
  | none => (firstK m m.chambers.toNat []).getD []
theorem someK_ok {m : MkM} {c : List Int} (hm : isMk m = true) (hl : (c.length : Int) = m.chambers) (hc : ∀ x ∈ c, 0 ≤ x ∧ x < m.depths) :
    ((someK m c).length : Int) = m.chambers ∧ okTo m (someK m c) = true ∧ m.least ≤ (kindsTo (someK m c) (someK m c).length : Int) ∧ ∀ x ∈ someK m c, 0 ≤ x ∧ x < m.depths := by
  have hnum := isMk_num hm
  unfold someK
  cases h : nextTo m c c.length with
  | some k =>
    obtain ⟨g1, g2, g3, g4⟩ := nextTo_len hl hc c.length (Nat.le_refl _) h
    exact ⟨by simp only; omega, g2, g3, g4⟩
  | none =>
    obtain ⟨k, hk⟩ := firstK_some hm
    obtain ⟨g1, g2, g3, g4⟩ := firstK_len _ _ _ hk
    simp only [hk, Option.getD_some]
    exact ⟨by simp at g1; omega, g2, g3, g4 fun x hx => by cases hx⟩
theorem c_l02Some (v : Nat) (bs : List UInt8) (s : Src) (m : MkM) (h : SrcOk s) (hm : isMk m = true) (hl : bs.length ≤ 4096) :
    FnMR Tryz.prog 110 [srcB v bs s] [.ptr 1000000000 v 0 0, eMk m] (fun x io => x = eIs (someK m (cutsTo bs m.depths s m.chambers.toNat).1) ∧ io = [srcB v bs (cutsTo bs m.depths s m.chambers.toNat).2]) := by
  refine FnMR.of_vc 37 [.tmp 4] Tryz.func110 rfl rfl rfl rfl rfl (of_decide_eq_true rfl) ?_
  have ⟨⟨hch1, hch2⟩, hd1, hd2⟩ := isMk_num hm
  have hct := fun i => cutsTo_ok (bs := bs) (D := m.depths) h hd1 i
  simp -dsimp -implicitDefEqProofs only [go_sem, ↓reduceIte]
  refine Later.up [0, 3] [20, 21, 22] [9, 1000000000] m.chambers.toNat (fun _ => True) (fun i => [(6, eI i), (5, .ref 9 0 0 (cutsTo bs m.depths s i).1.length)]) (fun i => [(9, .row 0 ⟨1, false⟩ true ((cutsTo bs m.depths s i).1.map eI)), (1000000000, srcB v bs (cutsTo bs m.depths s i).2)]) trivial ?_ rfl (fun i hi _ => ?_) (fun _ => ?_)
  · simp -dsimp -implicitDefEqProofs only [go_sem, ↓reduceIte]
    try simp [cutsTo]
  · have hlt : decide ((i : Int) < m.chambers) = true := decide_eq_true (by omega)
    obtain ⟨h1, h2, h3⟩ := hct i
    have hn := nx_ok bs m.depths h1
    have q := fun v => c_l01Next v bs m.depths _ h1 hl
    have hsucc : cutsTo bs m.depths s (i + 1) = ((cutsTo bs m.depths s i).1 ++ [(nx bs m.depths (cutsTo bs m.depths s i).2).1], (nx bs m.depths (cutsTo bs m.depths s i).2).2) := rfl
    rw [hsucc]
    clear hsucc hct
    generalize nx bs m.depths (cutsTo bs m.depths s i).2 = a at *
    generalize cutsTo bs m.depths s i = p at *
    have htk : List.take p.1.length (List.map eI p.1) = List.map eI p.1 := List.take_of_length_le (by simp)
    simp -dsimp -implicitDefEqProofs only [pick_nil, pick_cons, look_nil, look_cons, dropB_nil, dropB_cons, inD_nil, inD_cons, inE_nil, inE_cons, or_t_l, or_f_l, Nat.reduceBEq, Nat.reduceDiv, Nat.reduceAdd, beq_self_eq_true, uq0, uq1, ↓reduceIte, Nat.reduceEqDiff, uq2, uq3]
    simp -dsimp -implicitDefEqProofs only [go_sem, ↓reduceIte, hlt]
    (refine sCallT_io [1000000000] ?_; simp -dsimp -implicitDefEqProofs only [go_sem, ↓reduceIte]; refine sCallM_one (q _) ?_; simp -dsimp -implicitDefEqProofs only [go_sem, ↓reduceIte])
    exact ⟨by omega, ⟨by omega, by omega⟩, by simp, by simp⟩
  · have hlt : decide (((m.chambers.toNat : Nat) : Int) < m.chambers) = false := decide_eq_false (by omega)
    obtain ⟨h1, h2, h3⟩ := hct m.chambers.toNat
    clear hct
    generalize cutsTo bs m.depths s m.chambers.toNat = p at *
    have hnx := c_l02Next m p.1 hm (by omega) h3
    simp -dsimp -implicitDefEqProofs only [pick_nil, pick_cons, look_nil, look_cons, dropB_nil, dropB_cons, inD_nil, inD_cons, inE_nil, inE_cons, or_t_l, or_f_l, Nat.reduceBEq, Nat.reduceDiv, Nat.reduceAdd, beq_self_eq_true, uq0, uq1, ↓reduceIte, Nat.reduceEqDiff, uq2, uq3]
    simp -dsimp -implicitDefEqProofs only [go_sem, ↓reduceIte, hlt]
    refine sCallT_frz 9 0 ⟨1, false⟩ true (List.map eI p.1) hnx (by decide) ?_ ?_ fun r hr => ?_
    · simp -dsimp -implicitDefEqProofs only [go_sem, ↓reduceIte]
    · refine frzOk_no ?_ rfl ?_
      · simp -dsimp -implicitDefEqProofs only [go_sem, ↓reduceIte]
      · have h := frzOk_ref (l := 9) (v := 0) (sh := ⟨1, false⟩) (ys := List.map eI p.1) (xs := []) (r := []) 0 p.1.length (by simp) trivial
        rw [List.drop_zero, List.take_of_length_le (by simp)] at h
        exact h
    · subst hr
      obtain ⟨k0, hk0⟩ := firstK_some hm
      unfold someK
      cases nextTo m p.1 p.1.length with
      | some k =>
        unfold optR
        simp -dsimp -implicitDefEqProofs only [go_sem, ↓reduceIte]
      | none =>
        rw [hk0]
        unfold optR
        have hf := (c_l02First m hm m.chambers.toNat [] (by simp; omega) (fun x hx => by cases hx)).subs (args' := [eMk m, eNil]) (.cons (.refl _) (.cons (.nil _) .nil))
        unfold firstR at hf
        rw [hk0] at hf
        simp -dsimp -implicitDefEqProofs only [go_sem, ↓reduceIte]
        refine sCallS_one (r := .tup [eIs k0, eB true]) hf ?_ ?_
        · simp [noLabs, labs, labsL, isClo]
        · simp -dsimp -implicitDefEqProofs only [go_sem, ↓reduceIte]
          exact rfl
end Go.Vc


set_option linter.unusedVariables false
set_option linter.unusedSimpArgs false
set_option linter.unnecessarySimpa false
namespace Go.Vc
open Go.Proofs
set_option maxRecDepth 100000
set_option maxHeartbeats 4000000
structure MkB (m : MkM) : Prop where
  c : 0 ≤ m.chambers ∧ m.chambers ≤ 7
  d : 0 ≤ m.depths ∧ m.depths ≤ 9
  s : 0 ≤ m.step ∧ m.step ≤ 9
  a : 0 ≤ m.same ∧ m.same ≤ 9
  l : 0 ≤ m.least ∧ m.least ≤ 9
structure CSt where
  cuts : List Int
  at' : Int
  src : Src
def cutSt (bs : List UInt8) (m : MkM) (p : CSt) : CSt :=
  ⟨p.cuts ++ [p.at'],
   if (nx bs 24 (nx bs (2 * (if m.step > 0 then m.step else 0) + 1) p.src).2).1 > 0 then
     (if (if p.at' + (nx bs (2 * (if m.step > 0 then m.step else 0) + 1) p.src).1 - m.step < m.depths - 1 then p.at' + (nx bs (2 * (if m.step > 0 then m.step else 0) + 1) p.src).1 - m.step else m.depths - 1) > 0 then
       (if p.at' + (nx bs (2 * (if m.step > 0 then m.step else 0) + 1) p.src).1 - m.step < m.depths - 1 then p.at' + (nx bs (2 * (if m.step > 0 then m.step else 0) + 1) p.src).1 - m.step else m.depths - 1) else 0)
   else p.at' + (nx bs (2 * (if m.step > 0 then m.step else 0) + 1) p.src).1 - m.step,
   (nx bs 24 (nx bs (2 * (if m.step > 0 then m.step else 0) + 1) p.src).2).2⟩
def cutsN (bs : List UInt8) (m : MkM) (p : CSt) : Nat → CSt
  | 0 => p
  | i + 1 => cutSt bs m (cutsN bs m p i)
theorem cutsN_ok {bs : List UInt8} {m : MkM} (hm : MkB m) {p : CSt} (h : SrcOk p.src) (h2 : p.cuts = []) (h3 : 0 ≤ p.at' ∧ p.at' ≤ 9) : ∀ i, SrcOk (cutsN bs m p i).src ∧ (cutsN bs m p i).cuts.length = i ∧ -20 - 20 * (i : Int) ≤ (cutsN bs m p i).at' ∧ (cutsN bs m p i).at' ≤ 20 + 20 * (i : Int)
  | 0 => ⟨h, by rw [cutsN, h2]; rfl, by simp only [cutsN]; omega, by simp only [cutsN]; omega⟩
  | i + 1 => by
    obtain ⟨g1, g2, g3, g4⟩ := cutsN_ok hm h h2 h3 i (bs := bs)
    simp only [cutsN, cutSt]
    generalize cutsN bs m p i = q at *
    have hm1 := hm.s
    have hm2 := hm.d
    have hst : 0 ≤ 2 * (if m.step > 0 then m.step else 0) + 1 ∧ 2 * (if m.step > 0 then m.step else 0) + 1 ≤ 19 := by split <;> omega
    generalize 2 * (if m.step > 0 then m.step else 0) + 1 = W at *
    have n1 := nx_ok bs W g1
    have n2 : (nx bs W q.src).1 ≤ 19 := by
      by_cases hw : W ≤ 1
      · have := n1.2.1 hw; omega
      · have := n1.2.2.1 (by omega); omega
    generalize nx bs W q.src = a at *
    have n3 := nx_ok bs 24 n1.2.2.2
    generalize nx bs 24 a.2 = b at *
    refine ⟨n3.2.2.2, by simp [g2], ?_, ?_⟩ <;> (repeat' split) <;> omega
def cutsE (bs : List UInt8) (p : CSt) : List Int × Src := if (nx bs 24 p.src).1 = 0 then (p.cuts ++ [0], (nx bs 24 p.src).2) else (p.cuts, (nx bs 24 p.src).2)
def chD (m : MkM) : Int := if m.chambers < 8 then m.chambers else 8
def cutsD (bs : List UInt8) (m : MkM) (s : Src) : List Int × Src :=
  cutsE bs (cutsN bs m ⟨[], (nx bs (if m.depths > 1 then m.depths else 1) s).1, (nx bs (if m.depths > 1 then m.depths else 1) s).2⟩ (chD m).toNat)
theorem cutsE_ok {bs : List UInt8} {p : CSt} (h : SrcOk p.src) : SrcOk (cutsE bs p).2 ∧ (cutsE bs p).1.length ≤ p.cuts.length + 1 := by
  have := (nx_ok bs 24 h).2.2.2
  unfold cutsE
  split
  · exact ⟨this, by simp⟩
  · exact ⟨this, by dsimp only; omega⟩
theorem cuts0_ok {bs : List UInt8} {m : MkM} {s : Src} (hm : MkB m) (h : SrcOk s) : SrcOk (nx bs (if m.depths > 1 then m.depths else 1) s).2 ∧ 0 ≤ (nx bs (if m.depths > 1 then m.depths else 1) s).1 ∧ (nx bs (if m.depths > 1 then m.depths else 1) s).1 ≤ 9 := by
  have hd := hm.d
  have hw : (if m.depths > 1 then m.depths else 1) ≤ 9 := by split <;> omega
  generalize (if m.depths > 1 then m.depths else 1) = W at *
  have hn := nx_ok bs W h
  refine ⟨hn.2.2.2, hn.1, ?_⟩
  by_cases h1 : W ≤ 1
  · have := hn.2.1 h1; omega
  · have := hn.2.2.1 (by omega); omega
theorem cutsD_ok {bs : List UInt8} {m : MkM} {s : Src} (hm : MkB m) (h : SrcOk s) : SrcOk (cutsD bs m s).2 ∧ (cutsD bs m s).1.length ≤ 8 := by
  have h0 := cuts0_ok (bs := bs) hm h
  obtain ⟨h1, h2, _⟩ := cutsN_ok (bs := bs) hm (p := ⟨[], (nx bs (if m.depths > 1 then m.depths else 1) s).1, (nx bs (if m.depths > 1 then m.depths else 1) s).2⟩) h0.1 rfl h0.2 (chD m).toNat
  have h3 := cutsE_ok (bs := bs) h1
  have h4 : (chD m).toNat ≤ 7 := by have := hm.c; unfold chD; split <;> omega
  unfold cutsD
  exact ⟨h3.1, by omega⟩
theorem c_l02DrawCuts (v : Nat) (bs : List UInt8) (m : MkM) (s : Src) (hm : MkB m) (h : SrcOk s) (hl : bs.length ≤ 4096) :
    FnM Tryz.prog 78 [srcB v bs s] [.ptr 1000000000 v 0 0, eMk m] (fun x io => x = eIs (cutsD bs m s).1 ∧ io = [srcB v bs (cutsD bs m s).2]) := by
  refine FnM.of_vcN 53 [.tmp 4] Tryz.func78 rfl rfl rfl rfl rfl (of_decide_eq_true rfl) ?_
  have hc := hm.c
  have hd := hm.d
  have hs := hm.s
  have h0 := cuts0_ok (bs := bs) hm h
  have q0 := fun v => c_l01Next v bs (if m.depths > 1 then m.depths else 1) _ h hl
  unfold cutsD
  generalize nx bs (if m.depths > 1 then m.depths else 1) s = a at *
  have hcn := cutsN_ok (bs := bs) hm (p := ⟨[], a.1, a.2⟩) h0.1 rfl h0.2
  have hch : 0 ≤ chD m ∧ chD m ≤ 7 := by unfold chD; split <;> omega
  simp -dsimp -implicitDefEqProofs only [go_sem, ↓reduceIte]
  (refine sCallT_io [1000000000] ?_; simp -dsimp -implicitDefEqProofs only [go_sem, ↓reduceIte]; refine sCallM_one (q0 _) ?_; simp -dsimp -implicitDefEqProofs only [go_sem, ↓reduceIte])
  refine Later.up [0, 3] [17, 23, 24, 29, 32, 38, 44, 45] [8, 1000000000] (chD m).toNat (fun _ => True) (fun i => [(7, eI i), (6, eI (cutsN bs m ⟨[], a.1, a.2⟩ i).at'), (5, .ref 8 0 0 i)]) (fun i => [(8, .row 0 ⟨1, false⟩ true ((cutsN bs m ⟨[], a.1, a.2⟩ i).cuts.map eI)), (1000000000, srcB v bs (cutsN bs m ⟨[], a.1, a.2⟩ i).src)]) trivial ?_ rfl (fun i hi _ => ?_) (fun _ => ?_)
  · simp -dsimp -implicitDefEqProofs only [go_sem, ↓reduceIte, cutsN]
  · obtain ⟨g1, g2, g3, g4⟩ := hcn i
    have hlt : decide ((i : Int) < chD m) = true := decide_eq_true (by omega)
    unfold chD at hlt
    clear hcn
    simp only [cutsN, cutSt]
    generalize cutsN bs m ⟨[], a.1, a.2⟩ i = q at *
    have htk : List.take i (List.map eI q.cuts) = List.map eI q.cuts := List.take_of_length_le (by simp; omega)
    have hst : 0 ≤ 2 * (if m.step > 0 then m.step else 0) + 1 ∧ 2 * (if m.step > 0 then m.step else 0) + 1 ≤ 19 := by split <;> omega
    have n1 := nx_ok bs (2 * (if m.step > 0 then m.step else 0) + 1) g1
    have q1 := fun v => c_l01Next v bs (2 * (if m.step > 0 then m.step else 0) + 1) _ g1 hl
    have n2 : (nx bs (2 * (if m.step > 0 then m.step else 0) + 1) q.src).1 ≤ 19 := by
      by_cases hw : (2 * (if m.step > 0 then m.step else 0) + 1) ≤ 1
      · have := n1.2.1 hw; omega
      · have := n1.2.2.1 (by omega); omega
    generalize nx bs (2 * (if m.step > 0 then m.step else 0) + 1) q.src = b at *
    have n3 := nx_ok bs 24 n1.2.2.2
    have q2 := fun v => c_l01Next v bs 24 _ n1.2.2.2 hl
    generalize nx bs 24 b.2 = c at *
    simp -dsimp -implicitDefEqProofs only [pick_nil, pick_cons, look_nil, look_cons, dropB_nil, dropB_cons, inD_nil, inD_cons, inE_nil, inE_cons, or_t_l, or_f_l, Nat.reduceBEq, Nat.reduceDiv, Nat.reduceAdd, beq_self_eq_true, uq0, uq1, ↓reduceIte, Nat.reduceEqDiff, uq2, uq3]
    simp -dsimp -implicitDefEqProofs only [go_sem, ↓reduceIte, hlt, htk]
    ((repeat' (with_reducible refine And.intro ?_ ?_)); all_goals try (first | omega | (refine ⟨?_, ?_⟩ <;> omega) | (exact rfl)))
    refine Later.draw mixed rfl ?_
    simp -dsimp -implicitDefEqProofs only [go_sem, ↓reduceIte]
    ((repeat' (with_reducible refine And.intro ?_ ?_)); all_goals try (first | omega | (refine ⟨?_, ?_⟩ <;> omega) | (exact rfl)))
    refine sCallX_io [1000000000] rfl ?_
    simp -dsimp -implicitDefEqProofs only [go_sem, ↓reduceIte]
    refine sCallMX_one (q1 _) ?_
    simp -dsimp -implicitDefEqProofs only [go_sem, ↓reduceIte]
    ((repeat' (with_reducible refine And.intro ?_ ?_)); all_goals try (first | omega | (refine ⟨?_, ?_⟩ <;> omega) | (exact rfl)))
    (refine sCallT_io [1000000000] ?_; simp -dsimp -implicitDefEqProofs only [go_sem, ↓reduceIte]; refine sCallM_one (q2 _) ?_; simp -dsimp -implicitDefEqProofs only [go_sem, ↓reduceIte])
    rcases b0 : decide (c.1 > 0) with _ | _
    · rw [if_neg (of_decide_eq_false b0)]
      simp -dsimp -implicitDefEqProofs only [go_sem, ↓reduceIte, b0]
      ((repeat' (with_reducible refine And.intro ?_ ?_)); all_goals try (first | omega | (refine ⟨?_, ?_⟩ <;> omega) | (exact rfl)))
      all_goals (simp; done)
    · rw [if_pos (of_decide_eq_true b0)]
      simp -dsimp -implicitDefEqProofs only [go_sem, ↓reduceIte, b0]
      ((repeat' (with_reducible refine And.intro ?_ ?_)); all_goals try (first | omega | (refine ⟨?_, ?_⟩ <;> omega) | (exact rfl)))
      all_goals (simp; done)
  · obtain ⟨g1, g2, g3, g4⟩ := hcn (chD m).toNat
    have hlt : decide (((chD m).toNat : Int) < chD m) = false := decide_eq_false (by omega)
    generalize hW : chD m = W at *
    unfold chD at hW
    clear hcn
    generalize cutsN bs m ⟨[], a.1, a.2⟩ W.toNat = q at *
    unfold cutsE
    have n3 := nx_ok bs 24 g1
    have q2 := fun v => c_l01Next v bs 24 _ g1 hl
    generalize nx bs 24 q.src = c at *
    simp -dsimp -implicitDefEqProofs only [pick_nil, pick_cons, look_nil, look_cons, dropB_nil, dropB_cons, inD_nil, inD_cons, inE_nil, inE_cons, or_t_l, or_f_l, Nat.reduceBEq, Nat.reduceDiv, Nat.reduceAdd, beq_self_eq_true, uq0, uq1, ↓reduceIte, Nat.reduceEqDiff, uq2, uq3]
    simp -dsimp -implicitDefEqProofs only [go_sem, ↓reduceIte, hlt, hW]
    (refine sCallT_io [1000000000] ?_; simp -dsimp -implicitDefEqProofs only [go_sem, ↓reduceIte]; refine sCallM_one (q2 _) ?_; simp -dsimp -implicitDefEqProofs only [go_sem, ↓reduceIte])
    rcases b0 : (c.1 == 0) with _ | _
    · rw [if_neg (beq_eq_false_iff_ne.1 b0)]
      simp -dsimp -implicitDefEqProofs only [go_sem, ↓reduceIte, b0]
      ((repeat' (with_reducible refine And.intro ?_ ?_)); all_goals try (first | omega | (refine ⟨?_, ?_⟩ <;> omega) | (exact rfl)))
      all_goals first | (simp; done) | (rw [List.take_of_length_le (l := List.map eI q.cuts) (by simp; omega)]; try (rw [List.take_of_length_le (by simp; omega)]; simp))
    · rw [if_pos (beq_iff_eq.1 b0)]
      simp -dsimp -implicitDefEqProofs only [go_sem, ↓reduceIte, b0]
      ((repeat' (with_reducible refine And.intro ?_ ?_)); all_goals try (first | omega | (refine ⟨?_, ?_⟩ <;> omega) | (exact rfl)))
      all_goals first | (simp; done) | (rw [List.take_of_length_le (l := List.map eI q.cuts) (by simp; omega)]; try (rw [List.take_of_length_le (by simp; omega)]; simp))
end Go.Vc


set_option linter.unusedVariables false
set_option linter.unusedSimpArgs false
set_option linter.unnecessarySimpa false
namespace Go.Vc
open Go.Proofs
set_option maxRecDepth 100000
def zrowTo (bs : List UInt8) (s : Src) : Nat → List Int × Src
  | 0 => ([], s)
  | k + 1 => ((zrowTo bs s k).1 ++ [(pk bs [0, 0, 1] (zrowTo bs s k).2).1], (pk bs [0, 0, 1] (zrowTo bs s k).2).2)
theorem zrowTo_succ (bs : List UInt8) (s : Src) (k : Nat) : zrowTo bs s (k + 1) = ((zrowTo bs s k).1 ++ [(pk bs [0, 0, 1] (zrowTo bs s k).2).1], (pk bs [0, 0, 1] (zrowTo bs s k).2).2) := rfl
theorem zrowTo_ok {bs : List UInt8} {s : Src} (h : SrcOk s) : ∀ k, SrcOk (zrowTo bs s k).2 ∧ (zrowTo bs s k).1.length = k
  | 0 => ⟨h, rfl⟩
  | k + 1 => by
    obtain ⟨h1, h2⟩ := zrowTo_ok h k (bs := bs)
    rw [zrowTo_succ]
    exact ⟨pk_ok bs _ h1, by simp [h2]⟩
def ztabTo (bs : List UInt8) (c : Nat) (s : Src) : Nat → List (List Int) × Src
  | 0 => ([], s)
  | i + 1 => ((ztabTo bs c s i).1 ++ [(zrowTo bs (ztabTo bs c s i).2 c).1], (zrowTo bs (ztabTo bs c s i).2 c).2)
theorem ztabTo_succ (bs : List UInt8) (c : Nat) (s : Src) (i : Nat) : ztabTo bs c s (i + 1) = ((ztabTo bs c s i).1 ++ [(zrowTo bs (ztabTo bs c s i).2 c).1], (zrowTo bs (ztabTo bs c s i).2 c).2) := rfl
theorem ztabTo_ok {bs : List UInt8} {s : Src} (h : SrcOk s) (c : Nat) : ∀ i, SrcOk (ztabTo bs c s i).2 ∧ (ztabTo bs c s i).1.length = i ∧ ∀ x ∈ (ztabTo bs c s i).1, x.length = c
  | 0 => ⟨h, rfl, fun x hx => by cases hx⟩
  | i + 1 => by
    obtain ⟨h1, h2, h3⟩ := ztabTo_ok h c i (bs := bs)
    obtain ⟨g1, g2⟩ := zrowTo_ok h1 c (bs := bs)
    rw [ztabTo_succ]
    refine ⟨g1, by simp [h2], fun x hx => ?_⟩
    rcases List.mem_append.1 hx with hx | hx
    · exact h3 x hx
    · simp at hx; subst hx; exact g2
def setAt (t : List (List Int)) (i k : Nat) : List (List Int) := t.set i ((t.getD i []).set k 1)
theorem setAt_ok {t : List (List Int)} {r c : Nat} (h1 : t.length = r) (h2 : ∀ x ∈ t, x.length = c) (i k : Nat) : (setAt t i k).length = r ∧ ∀ x ∈ setAt t i k, x.length = c := by
  refine ⟨by simp [setAt, h1], fun x hx => ?_⟩
  unfold setAt at hx
  by_cases hi : i < t.length
  · rcases List.mem_or_eq_of_mem_set hx with hx | rfl
    · exact h2 x hx
    · rw [List.length_set, List.getD_eq_getElem?_getD, List.getElem?_eq_getElem hi]
      exact h2 _ (List.getElem_mem hi)
  · rw [List.set_eq_of_length_le (by omega)] at hx
    exact h2 x hx
def fillA (bs : List UInt8) (a : Nat) (k : Nat) (z : List (List Int) × Src) : List (List Int) := if decide ((nx bs 3 z.2).1 > 0) = true then setAt z.1 a k else z.1
def fillTo (bs : List UInt8) (r a : Nat) (z : List (List Int) × Src) : Nat → List (List Int) × Src
  | 0 => z
  | k + 1 => (setAt (fillA bs a k (fillTo bs r a z k)) (nx bs r (nx bs 3 (fillTo bs r a z k).2).2).1.toNat k, (nx bs r (nx bs 3 (fillTo bs r a z k).2).2).2)
theorem fillTo_succ (bs : List UInt8) (r a : Nat) (z : List (List Int) × Src) (k : Nat) : fillTo bs r a z (k + 1) = (setAt (fillA bs a k (fillTo bs r a z k)) (nx bs r (nx bs 3 (fillTo bs r a z k).2).2).1.toNat k, (nx bs r (nx bs 3 (fillTo bs r a z k).2).2).2) := rfl
theorem fillTo_ok {bs : List UInt8} {r c a : Nat} {z : List (List Int) × Src} (h : SrcOk z.2) (h1 : z.1.length = r) (h2 : ∀ x ∈ z.1, x.length = c) : ∀ k, SrcOk (fillTo bs r a z k).2 ∧ (fillTo bs r a z k).1.length = r ∧ ∀ x ∈ (fillTo bs r a z k).1, x.length = c
  | 0 => ⟨h, h1, h2⟩
  | k + 1 => by
    obtain ⟨g1, g2, g3⟩ := fillTo_ok h h1 h2 k (bs := bs) (a := a)
    rw [fillTo_succ]
    have a1 := nx_ok bs 3 g1
    refine ⟨(nx_ok bs r a1.2.2.2).2.2.2, ?_⟩
    have hA : (fillA bs a k (fillTo bs r a z k)).length = r ∧ ∀ x ∈ fillA bs a k (fillTo bs r a z k), x.length = c := by
      unfold fillA
      split
      · exact setAt_ok g2 g3 _ _
      · exact ⟨g2, g3⟩
    exact setAt_ok hA.1 hA.2 _ _
def sysR (bs : List UInt8) (s : Src) : Nat := (1 + (nx bs 4 (mkV bs s).2).1).toNat
def sysC (bs : List UInt8) (s : Src) : Nat := (1 + (nx bs 4 (nx bs 4 (mkV bs s).2).2).1).toNat
def sysZ (bs : List UInt8) (s : Src) : List (List Int) × Src := ztabTo bs (sysC bs s) (nx bs 4 (nx bs 4 (mkV bs s).2).2).2 (sysR bs s)
def sysA (bs : List UInt8) (s : Src) : Int × Src := nx bs (sysR bs s) (sysZ bs s).2
def sysT (bs : List UInt8) (s : Src) : List (List Int) × Src := fillTo bs (sysR bs s) (sysA bs s).1.toNat ((sysZ bs s).1, (sysA bs s).2) (sysC bs s)
structure sysOk (m : MkM) (t : List (List Int)) (s : Src) : Prop where
  src : SrcOk s
  hmk : isMk m = true
  lt : 1 ≤ t.length ∧ t.length ≤ 4
  lr : 1 ≤ (t.getD 0 []).length ∧ (t.getD 0 []).length ≤ 4
  rs : ∀ i (hi : i < t.length), t[i].length = (t.getD 0 []).length
theorem sysRC (bs : List UInt8) {s : Src} (h : SrcOk s) : (1 ≤ sysR bs s ∧ sysR bs s ≤ 4) ∧ 1 ≤ sysC bs s ∧ sysC bs s ≤ 4 := by
  have a := (mkV_ok bs h).1
  have b := nx_ok bs 4 a
  have b3 := b.2.2.1 (by omega)
  have c := nx_ok bs 4 b.2.2.2
  have c3 := c.2.2.1 (by omega)
  unfold sysR sysC
  omega
theorem sysZ_ok (bs : List UInt8) {s : Src} (h : SrcOk s) : SrcOk (sysZ bs s).2 ∧ (sysZ bs s).1.length = sysR bs s ∧ ∀ x ∈ (sysZ bs s).1, x.length = sysC bs s := by
  have a := (mkV_ok bs h).1
  exact ztabTo_ok (nx_ok bs 4 (nx_ok bs 4 a).2.2.2).2.2.2 _ _
theorem sysT_ok (bs : List UInt8) {s : Src} (h : SrcOk s) : sysOk (mkV bs s).1 (sysT bs s).1 (sysT bs s).2 := by
  have ⟨z1, z2, z3⟩ := sysZ_ok bs h
  have ⟨r1, c1⟩ := sysRC bs h
  have a := nx_ok bs (sysR bs s) z1
  have ⟨f1, f2, f3⟩ := fillTo_ok (bs := bs) (r := sysR bs s) (c := sysC bs s) (a := (sysA bs s).1.toNat) (z := ((sysZ bs s).1, (sysA bs s).2)) a.2.2.2 z2 z3 (sysC bs s)
  change SrcOk (sysT bs s).2 at f1
  change (sysT bs s).1.length = _ at f2
  change ∀ x ∈ (sysT bs s).1, _ at f3
  have e0 : ((sysT bs s).1.getD 0 []).length = sysC bs s := by
    rw [List.getD_eq_getElem?_getD, List.getElem?_eq_getElem (by omega)]
    exact f3 _ (List.getElem_mem _)
  exact ⟨f1, (mkV_ok bs h).2.1, by omega, by omega, fun i hi => by rw [e0]; exact f3 _ (List.getElem_mem hi)⟩
def scutTo (bs : List UInt8) (m : MkM) (s : Src) : Nat → List (List Int) × Src
  | 0 => ([], s)
  | i + 1 => ((scutTo bs m s i).1 ++ [someK m (cutsTo bs m.depths (scutTo bs m s i).2 m.chambers.toNat).1], (cutsTo bs m.depths (scutTo bs m s i).2 m.chambers.toNat).2)
theorem scutTo_succ (bs : List UInt8) (m : MkM) (s : Src) (i : Nat) : scutTo bs m s (i + 1) = ((scutTo bs m s i).1 ++ [someK m (cutsTo bs m.depths (scutTo bs m s i).2 m.chambers.toNat).1], (cutsTo bs m.depths (scutTo bs m s i).2 m.chambers.toNat).2) := rfl
theorem mkB_of {m : MkM} (h : isMk m = true) : MkB m := by
  have ⟨⟨m1, m2⟩, m3, m4⟩ := isMk_num h
  have ⟨a1, a2, a3, a4⟩ := isMk_same h
  have h5 : m.step ≤ 9 ∧ m.least ≤ 9 := by
    simp only [isMk, isIn, Bool.and_eq_true, decide_eq_true_eq] at h
    have := h.2
    split at this <;> omega
  exact ⟨by omega, by omega, by omega, by omega, by omega⟩
theorem scutTo_ok {bs : List UInt8} {m : MkM} {s : Src} (hm : isMk m = true) (h : SrcOk s) : ∀ i, SrcOk (scutTo bs m s i).2 ∧ (scutTo bs m s i).1.length = i ∧ ∀ x ∈ (scutTo bs m s i).1, (x.length : Int) = m.chambers
  | 0 => ⟨h, rfl, fun x hx => by cases hx⟩
  | i + 1 => by
    obtain ⟨h1, h2, h3⟩ := scutTo_ok hm h i (bs := bs)
    have hn := isMk_num hm
    have g := cutsTo_ok (bs := bs) (D := m.depths) h1 hn.2.1 m.chambers.toNat
    rw [scutTo_succ]
    refine ⟨g.1, by simp [h2], fun x hx => ?_⟩
    rcases List.mem_append.1 hx with hx | hx
    · exact h3 x hx
    · simp at hx; subst hx
      exact (someK_ok hm (by omega) g.2.2).1
def scutE (bs : List UInt8) (m : MkM) (z : List (List Int)) (a : Int × Src) : List (List Int) × Src :=
  if (a.1 == 0) = true then (z.set 0 (cutsD bs m a.2).1, (cutsD bs m a.2).2)
  else if (a.1 == 1) = true then (z ++ [someK m (cutsTo bs m.depths a.2 m.chambers.toNat).1], (cutsTo bs m.depths a.2 m.chambers.toNat).2)
  else (z, a.2)
def scutD (bs : List UInt8) (m : MkM) (n : Nat) (s : Src) : List (List Int) × Src := scutE bs m (scutTo bs m s n).1 (nx bs 30 (scutTo bs m s n).2)
theorem scutD_ok {bs : List UInt8} {m : MkM} {s : Src} (hm : isMk m = true) (h : SrcOk s) (n : Nat) : SrcOk (scutD bs m n s).2 ∧ (scutD bs m n s).1.length ≤ n + 1 ∧ ∀ x ∈ (scutD bs m n s).1, x.length ≤ 8 := by
  have ⟨z1, z2, z3⟩ := scutTo_ok (bs := bs) hm h n
  have hn := isMk_num hm
  have a := (nx_ok bs 30 z1).2.2.2
  unfold scutD
  generalize nx bs 30 (scutTo bs m s n).2 = a at *
  generalize (scutTo bs m s n).1 = z at *
  have c := cutsD_ok (bs := bs) (mkB_of hm) a
  have g := cutsTo_ok (bs := bs) (D := m.depths) a hn.2.1 m.chambers.toNat
  unfold scutE
  split
  · refine ⟨c.1, by simp; omega, fun x hx => ?_⟩
    rcases List.mem_or_eq_of_mem_set hx with hx | rfl
    · have := z3 x hx; omega
    · exact c.2
  split
  · refine ⟨g.1, by simp; omega, fun x hx => ?_⟩
    rcases List.mem_append.1 hx with hx | hx
    · have := z3 x hx; omega
    · simp at hx; subst hx
      have := (someK_ok hm (by omega) g.2.2).1
      omega
  · exact ⟨a, by simp; omega, fun x hx => by have := z3 x hx; omega⟩
structure SyD where
  m : MkM
  t : List (List Int)
  cuts : List (List Int)
  src : Src
def sysE (bs : List UInt8) (m : MkM) (t cuts : List (List Int)) (n : Int × Src) : SyD :=
  if (n.1 == 0) = true then ⟨m, t.set 0 ((t.getD 0 []).set 0 (pk bs [-1, 0, 2] n.2).1), cuts, (pk bs [-1, 0, 2] n.2).2⟩
  else if (n.1 == 1) = true then ⟨(mkD bs n.2).1, t, cuts, (mkD bs n.2).2⟩
  else if (n.1 == 2) = true then ⟨m, (tabD bs n.2).1, cuts, (tabD bs n.2).2⟩
  else ⟨m, t, cuts, n.2⟩
def sysC2 (bs : List UInt8) (s : Src) : List (List Int) × Src := scutD bs (mkV bs s).1 (sysT bs s).1.length (sysT bs s).2
def sysD (bs : List UInt8) (s : Src) : SyD := sysE bs (mkV bs s).1 (sysT bs s).1 (sysC2 bs s).1 (nx bs 30 (sysC2 bs s).2)
structure sydOk (z : SyD) : Prop where
  src : SrcOk z.src
  lt : z.t.length ≤ 11
  lr : ∀ x ∈ z.t, x.length ≤ 13
  lc : z.cuts.length ≤ 10
  lk : ∀ x ∈ z.cuts, x.length ≤ 8
theorem sysD_ok (bs : List UInt8) {s : Src} (h : SrcOk s) : sydOk (sysD bs s) := by
  have ⟨t1, t2, t3, t4, t5⟩ := sysT_ok bs h
  have ⟨c1, c2, c3⟩ := scutD_ok (bs := bs) t2 t1 (sysT bs s).1.length
  change SrcOk (sysC2 bs s).2 at c1
  change (sysC2 bs s).1.length ≤ _ at c2
  change ∀ x ∈ (sysC2 bs s).1, _ at c3
  have a := (nx_ok bs 30 c1).2.2.2
  unfold sysD
  generalize nx bs 30 (sysC2 bs s).2 = n at *
  generalize (sysC2 bs s).1 = C at *
  have hr : ∀ x ∈ (sysT bs s).1, x.length ≤ 13 := fun x hx => by
    obtain ⟨i, hi, rfl⟩ := List.getElem_of_mem hx
    rw [t5 i hi]; omega
  have hr0 : ((sysT bs s).1.getD 0 []).length ≤ 13 := by omega
  generalize (sysT bs s).1 = T at *
  unfold sysE
  split
  · refine ⟨pk_ok bs _ a, by simp; omega, fun x hx => ?_, by simp only; omega, c3⟩
    rcases List.mem_or_eq_of_mem_set hx with hx | rfl
    · exact hr x hx
    · simpa using hr0
  split
  · exact ⟨mkD_ok bs a, by simp only; omega, hr, by simp only; omega, c3⟩
  split
  · obtain ⟨d1, d2, d3⟩ := tabD_ok bs a
    exact ⟨d1, d2, d3, by simp only; omega, c3⟩
  · exact ⟨a, by simp only; omega, hr, by simp only; omega, c3⟩
end Go.Vc


set_option linter.unusedVariables false
set_option linter.unusedSimpArgs false
set_option linter.unnecessarySimpa false
namespace Go.Vc
open Go.Proofs
set_option maxRecDepth 100000
set_option maxHeartbeats 4000000
theorem setAt_map (T : List (List Int)) (i k : Nat) : (T.map eIs).set i (.arr ⟨1, false⟩ (((T.getD i []).map eI).set k (eI 1))) = (setAt T i k).map eIs := by
  simp [setAt, List.map_set, eIs]
theorem setAt_get {T : List (List Int)} {i j k : Nat} (h : i ≠ j) : (setAt T i k).getD j [] = T.getD j [] := by
  simp [setAt, List.getD_eq_getElem?_getD, List.getElem?_set, h]
theorem setAt_self {T : List (List Int)} {i k : Nat} (h : i < T.length) : (setAt T i k).getD i [] = (T.getD i []).set k 1 := by
  simp [setAt, List.getD_eq_getElem?_getD, List.getElem?_set, h]
theorem getArr {T : List (List Int)} {i : Nat} (h : i < T.length) : (T.map eIs)[i]? = some (.arr ⟨1, false⟩ ((T.getD i []).map eI)) := by
  simp [List.getD_eq_getElem?_getD, h, eIs]
set_option maxHeartbeats 16000000 in
theorem c_l15Valid (v : Nat) (bs : List UInt8) (s : Src) (h : SrcOk s) (hl : bs.length ≤ 4096) :
    FnM Tryz.prog 96 [srcB v bs s] [.ptr 1000000000 v 0 0] (fun x io => x = eSy (mkV bs s).1 (sysT bs s).1 ∧ io = [srcB v bs (sysT bs s).2]) := by
  refine FnM.of_vcN 70 [.cell 2 28] Tryz.func96 rfl rfl rfl rfl rfl (of_decide_eq_true rfl) ?_
  have qm := fun v => c_l02Valid v bs s h hl
  have hm := mkV_ok bs h
  have hrc := sysRC bs h
  have hz := sysZ_ok bs h
  have er : 1 + (nx bs 4 (mkV bs s).2).1 = (sysR bs s : Int) := by
    have := (nx_ok bs 4 hm.1).1
    unfold sysR; omega
  have ec : 1 + (nx bs 4 (nx bs 4 (mkV bs s).2).2).1 = (sysC bs s : Int) := by
    have := (nx_ok bs 4 (nx_ok bs 4 hm.1).2.2.2).1
    unfold sysC; omega
  have qr := fun v => c_l01Next v bs 4 (mkV bs s).2 hm.1 hl
  have hr := nx_ok bs 4 hm.1
  have qc := fun v => c_l01Next v bs 4 (nx bs 4 (mkV bs s).2).2 hr.2.2.2 hl
  have hc := nx_ok bs 4 hr.2.2.2
  have c3 := hc.2.2.1 (by omega)
  have r3 := hr.2.2.1 (by omega)
  have htz := fun i => ztabTo_ok (bs := bs) hc.2.2.2 (sysC bs s) i
  have qa := fun v => c_l01Next v bs (sysR bs s) (sysZ bs s).2 hz.1 hl
  have ha := nx_ok bs (sysR bs s) hz.1
  have hal := nx_lt bs (n := sysR bs s) hrc.1.1 hz.1
  have eZ : sysZ bs s = ztabTo bs (sysC bs s) (nx bs 4 (nx bs 4 (mkV bs s).2).2).2 (sysR bs s) := rfl
  have eA : sysA bs s = nx bs (sysR bs s) (sysZ bs s).2 := rfl
  have eT : sysT bs s = fillTo bs (sysR bs s) (sysA bs s).1.toNat ((sysZ bs s).1, (sysA bs s).2) (sysC bs s) := rfl
  rw [eT, eA]
  clear eT eA
  have hf := fun k => fillTo_ok (bs := bs) (r := sysR bs s) (c := sysC bs s) (a := (nx bs (sysR bs s) (sysZ bs s).2).1.toNat) (z := ((sysZ bs s).1, (nx bs (sysR bs s) (sysZ bs s).2).2)) ha.2.2.2 hz.2.1 hz.2.2 k
  generalize nx bs (sysR bs s) (sysZ bs s).2 = na at *
  generalize sysZ bs s = Z at *
  generalize sysR bs s = r at *
  generalize sysC bs s = c at *
  generalize nx bs 4 (nx bs 4 (mkV bs s).2).2 = nc at *
  generalize nx bs 4 (mkV bs s).2 = nr at *
  generalize mkV bs s = M at *
  obtain ⟨M, s1⟩ := M
  simp only at er qr hm ⊢
  simp -dsimp -implicitDefEqProofs only [go_sem, ↓reduceIte]
  refine sCallT_io [1000000000] ?_
  simp -dsimp -implicitDefEqProofs only [go_sem, ↓reduceIte]
  refine sCallM_one (qm _) ?_
  simp -dsimp -implicitDefEqProofs only [go_sem, ↓reduceIte]
  (refine sCallT_io [1000000000] ?_; simp -dsimp -implicitDefEqProofs only [go_sem, ↓reduceIte]; refine sCallM_one (qr _) ?_; simp -dsimp -implicitDefEqProofs only [go_sem, ↓reduceIte])
  ((repeat' (with_reducible refine And.intro ?_ ?_)); all_goals try (first | omega | (refine ⟨?_, ?_⟩ <;> omega) | (exact rfl)))
  (refine sCallT_io [1000000000] ?_; simp -dsimp -implicitDefEqProofs only [go_sem, ↓reduceIte]; refine sCallM_one (qc _) ?_; simp -dsimp -implicitDefEqProofs only [go_sem, ↓reduceIte])
  ((repeat' (with_reducible refine And.intro ?_ ?_)); all_goals try (first | omega | (refine ⟨?_, ?_⟩ <;> omega) | (exact rfl)))
  rw [er, ec]
  refine Later.upP [0, 2, 3, 4, 5] [26, 34, 35, 36, 37, 40, 41] [20, 26, 34, 1000000000] r (fun _ => True) (fun i => [(7, eI i), (6, .ref 20 0 0 i)]) (fun i => [(20, .row 0 ⟨1, false⟩ true ((ztabTo bs c nc.2 i).1.map eIs)), (1000000000, srcB v bs (ztabTo bs c nc.2 i).2)]) trivial (.here ?_) rfl (fun i hi _ => ?_) (fun _ => ?_)
  · simp -dsimp -implicitDefEqProofs only [go_sem, ↓reduceIte, ztabTo]
    ((repeat' (with_reducible refine And.intro ?_ ?_)); all_goals try (first | omega | (refine ⟨?_, ?_⟩ <;> omega) | (exact rfl)))
  · refine Later.vc rfl ?_
    obtain ⟨o1, o2, o3⟩ := htz i
    have hlt : decide ((i : Int) < r) = true := decide_eq_true (by omega)
    have hrok := fun k => zrowTo_ok (bs := bs) o1 k
    rw [ztabTo_succ]
    clear eZ hf
    generalize ztabTo bs c nc.2 i = T at *
    have tT := tk eIs T.1 i (by omega)
    simp -dsimp -implicitDefEqProofs only [pick_nil, pick_cons, look_nil, look_cons, dropB_nil, dropB_cons, inD_nil, inD_cons, inE_nil, inE_cons, or_t_l, or_f_l, Nat.reduceBEq, Nat.reduceDiv, Nat.reduceAdd, beq_self_eq_true, uq0, uq1, ↓reduceIte, Nat.reduceEqDiff, uq2, uq3]
    simp -dsimp -implicitDefEqProofs only [go_sem, ↓reduceIte, hlt]
    refine Later.upP [0, 2, 3, 4, 5, 6, 7] [34, 35, 36, 37] [26, 34, 1000000000] c (fun _ => True) (fun k => [(9, eI k), (8, .ref 26 0 0 k)]) (fun k => [(26, .row 0 ⟨1, false⟩ true ((zrowTo bs T.2 k).1.map eI)), (1000000000, srcB v bs (zrowTo bs T.2 k).2)]) trivial (.here ?_) rfl (fun k hk _ => ?_) (fun _ => ?_)
    · simp -dsimp -implicitDefEqProofs only [go_sem, ↓reduceIte, zrowTo]
      ((repeat' (with_reducible refine And.intro ?_ ?_)); all_goals try (first | omega | (refine ⟨?_, ?_⟩ <;> omega) | (exact rfl)))
    · refine Later.vc rfl ?_
      obtain ⟨p1, p2⟩ := hrok k
      have hlt : decide ((k : Int) < c) = true := decide_eq_true (by omega)
      rw [zrowTo_succ]
      generalize zrowTo bs T.2 k = R at *
      have qp := fun v v2 => c_l01Pick v v2 true bs [0, 0, 1] _ R.2 rfl (by simp) (by simp) p1 hl
      generalize pk bs [0, 0, 1] R.2 = pp at *
      have tR := tk eI R.1 k (by omega)
      simp -dsimp -implicitDefEqProofs only [pick_nil, pick_cons, look_nil, look_cons, dropB_nil, dropB_cons, inD_nil, inD_cons, inE_nil, inE_cons, or_t_l, or_f_l, Nat.reduceBEq, Nat.reduceDiv, Nat.reduceAdd, beq_self_eq_true, uq0, uq1, ↓reduceIte, Nat.reduceEqDiff, uq2, uq3]
      simp -dsimp -implicitDefEqProofs only [go_sem, ↓reduceIte, hlt]
      ((repeat' (with_reducible refine And.intro ?_ ?_)); all_goals try (first | omega | (refine ⟨?_, ?_⟩ <;> omega) | (exact rfl)))
      (refine sCallT_io [1000000000, 34] ?_; simp -dsimp -implicitDefEqProofs only [go_sem, ↓reduceIte]; refine sCallM_one (qp _ _) ?_; simp -dsimp -implicitDefEqProofs only [go_sem, ↓reduceIte])
      ((repeat' (with_reducible refine And.intro ?_ ?_)); all_goals try (first | omega | (refine ⟨?_, ?_⟩ <;> omega) | (exact rfl)))
      all_goals first | (refine .here ?_; simp -dsimp -implicitDefEqProofs only [go_sem, ↓reduceIte, tR]; ((repeat' (with_reducible refine And.intro ?_ ?_)); all_goals try (first | omega | (refine ⟨?_, ?_⟩ <;> omega) | (exact rfl))); all_goals first | (simp; done) | trace_state) | trace_state
    · obtain ⟨p1, p2⟩ := hrok c
      generalize zrowTo bs T.2 c = R at *
      refine Later.known 8 26 0 c ⟨1, false⟩ _ rfl (by decide) rfl (by simp [p2]) (by omega) (by decide) fun u => ?_
      refine Later.vc rfl ?_
      have hge : decide ((c : Int) < c) = false := decide_eq_false (by omega)
      have e2 : (T.1.map eIs ++ [AV.val u]).set i (.arr ⟨1, false⟩ (R.1.map eI)) = (T.1 ++ [R.1]).map eIs := by
        rw [List.set_append_right _ _ (by simp [o2])]
        simp [o2, eIs]
      simp -dsimp -implicitDefEqProofs only [pick_nil, pick_cons, look_nil, look_cons, dropB_nil, dropB_cons, inD_nil, inD_cons, inE_nil, inE_cons, or_t_l, or_f_l, Nat.reduceBEq, Nat.reduceDiv, Nat.reduceAdd, beq_self_eq_true, uq0, uq1, ↓reduceIte, Nat.reduceEqDiff, uq2, uq3]
      simp -dsimp -implicitDefEqProofs only [go_sem, ↓reduceIte, hge, tT]
      ((repeat' (with_reducible refine And.intro ?_ ?_)); all_goals try (first | omega | (refine ⟨?_, ?_⟩ <;> omega) | (exact rfl)))
      all_goals first
        | (refine RefP.back 20 1 i 26 0 _ _ _ u (by decide) rfl (by simp [o2]) rfl (.here ?_)
           rw [e2]
           simp -dsimp -implicitDefEqProofs only [go_sem, ↓reduceIte]
           ((repeat' (with_reducible refine And.intro ?_ ?_)); all_goals try (first | omega | (refine ⟨?_, ?_⟩ <;> omega) | (exact rfl)))
           all_goals trace_state)
        | trace_state
  · rw [← eZ]
    clear eZ htz
    obtain ⟨z1, z2, z3⟩ := hz
    have hge : decide ((r : Int) < r) = false := decide_eq_false (by omega)
    refine Later.vc rfl ?_
    simp -dsimp -implicitDefEqProofs only [pick_nil, pick_cons, look_nil, look_cons, dropB_nil, dropB_cons, inD_nil, inD_cons, inE_nil, inE_cons, or_t_l, or_f_l, Nat.reduceBEq, Nat.reduceDiv, Nat.reduceAdd, beq_self_eq_true, uq0, uq1, ↓reduceIte, Nat.reduceEqDiff, uq2, uq3]
    simp -dsimp -implicitDefEqProofs only [go_sem, ↓reduceIte, hge]
    (refine sCallT_io [1000000000] ?_; simp -dsimp -implicitDefEqProofs only [go_sem, ↓reduceIte]; refine sCallM_one (qa _) ?_; simp -dsimp -implicitDefEqProofs only [go_sem, ↓reduceIte])
    ((repeat' (with_reducible refine And.intro ?_ ?_)); all_goals try (first | omega | (refine ⟨?_, ?_⟩ <;> omega) | (exact rfl)))
    refine Later.upP [0, 2, 3, 4, 5, 6, 10] [51, 62] [20, 1000000000] c (fun _ => True) (fun k => [(11, eI k)]) (fun k => [(20, .row 0 ⟨1, false⟩ true ((fillTo bs r na.1.toNat (Z.1, na.2) k).1.map eIs)), (1000000000, srcB v bs (fillTo bs r na.1.toNat (Z.1, na.2) k).2)]) trivial (.here ?_) rfl (fun k hk _ => ?_) (fun _ => ?_)
    · simp -dsimp -implicitDefEqProofs only [go_sem, ↓reduceIte, fillTo]
      ((repeat' (with_reducible refine And.intro ?_ ?_)); all_goals try (first | omega | (refine ⟨?_, ?_⟩ <;> omega) | (exact rfl)))
    · obtain ⟨f1, f2, f3⟩ := hf k
      have hlt : decide ((k : Int) < c) = true := decide_eq_true (by omega)
      rw [fillTo_succ]
      generalize fillTo bs r na.1.toNat (Z.1, na.2) k = F at *
      obtain ⟨T, s0⟩ := F
      simp only at f1 f2 f3
      have q3 := fun v => c_l01Next v bs 3 s0 f1 hl
      have n3 := nx_ok bs 3 f1
      simp only [fillA]
      generalize nx bs 3 s0 = a3 at *
      have qj := fun v => c_l01Next v bs r a3.2 n3.2.2.2 hl
      have nj := nx_lt bs (n := r) hrc.1.1 n3.2.2.2
      generalize nx bs r a3.2 = aj at *
      have hA : na.1.toNat < T.length := by omega
      have hJ : aj.1.toNat < T.length := by omega
      have lA : (T.getD na.1.toNat []).length = c := by
        rw [List.getD_eq_getElem?_getD, List.getElem?_eq_getElem hA]; exact f3 _ (List.getElem_mem hA)
      have lJ : (T.getD aj.1.toNat []).length = c := by
        rw [List.getD_eq_getElem?_getD, List.getElem?_eq_getElem hJ]; exact f3 _ (List.getElem_mem hJ)
      have gA := getArr hA
      have gJ := getArr hJ
      cases hc3 : decide (a3.1 > 0) with
      | false =>
        rw [if_neg (by simp)]
        have e2 := setAt_map T aj.1.toNat k
        generalize T.getD aj.1.toNat [] = R at *
        have gk := get_some (show k < R.length by omega)
        refine Later.takeOut 20 0 aj.1.toNat 91 _ _ ⟨1, false⟩ (by decide) rfl gJ (by simp; omega) rfl fun u => ?_
        have gu : ((T.map eIs).set aj.1.toNat (.val u))[aj.1.toNat]? = some (.val u) := by simp [hJ]
        refine Later.vc rfl ?_
        simp -dsimp -implicitDefEqProofs only [pick_nil, pick_cons, look_nil, look_cons, dropB_nil, dropB_cons, inD_nil, inD_cons, inE_nil, inE_cons, or_t_l, or_f_l, Nat.reduceBEq, Nat.reduceDiv, Nat.reduceAdd, beq_self_eq_true, uq0, uq1, ↓reduceIte, Nat.reduceEqDiff, uq2, uq3]
        simp -dsimp -implicitDefEqProofs only [go_sem, ↓reduceIte, hlt]
        (refine sCallT_io [1000000000] ?_; simp -dsimp -implicitDefEqProofs only [go_sem, ↓reduceIte]; refine sCallM_one (q3 _) ?_; simp -dsimp -implicitDefEqProofs only [go_sem, ↓reduceIte])
        ((repeat' (with_reducible refine And.intro ?_ ?_)); all_goals try (first | omega | (refine ⟨?_, ?_⟩ <;> omega) | (exact rfl)))
        simp -dsimp -implicitDefEqProofs only [go_sem, ↓reduceIte, hc3]
        (refine sCallT_io [1000000000] ?_; simp -dsimp -implicitDefEqProofs only [go_sem, ↓reduceIte]; refine sCallM_one (qj _) ?_; simp -dsimp -implicitDefEqProofs only [go_sem, ↓reduceIte])
        simp -dsimp -implicitDefEqProofs only [go_sem, ↓reduceIte, gu, gk]
        ((repeat' (with_reducible refine And.intro ?_ ?_)); all_goals try (first | omega | (refine ⟨?_, ?_⟩ <;> omega) | (exact rfl)))
        all_goals first
          | (refine RefP.back 20 0 aj.1.toNat 91 0 _ _ _ u (by decide) rfl gu rfl (.here ?_)
             rw [List.set_set, e2]
             simp -dsimp -implicitDefEqProofs only [go_sem, ↓reduceIte]
             ((repeat' (with_reducible refine And.intro ?_ ?_)); all_goals try (first | omega | (refine ⟨?_, ?_⟩ <;> omega) | (exact rfl)))
             all_goals trace_state)
          | trace_state
      | true =>
        rw [if_pos rfl]
        by_cases hAJ : na.1.toNat = aj.1.toNat
        · have e3 := setAt_map (setAt T na.1.toNat k) na.1.toNat k
          rw [setAt_self hA] at e3
          have e4 : (setAt T na.1.toNat k).map eIs = (T.map eIs).set na.1.toNat (eIs ((T.getD na.1.toNat []).set k 1)) := by simp [setAt, List.map_set]
          rw [e4, List.set_set] at e3
          clear e4
          rw [← hAJ]
          have hJj : aj.1 = na.1 := by omega
          generalize T.getD na.1.toNat [] = R at *
          have gk := get_some (show k < R.length by omega)
          have gk2 : ((R.map eI).set k (eI 1))[k]? = some (eI 1) := List.getElem?_set_self (by rw [List.length_map]; omega)
          refine Later.takeOut 20 0 na.1.toNat 91 _ _ ⟨1, false⟩ (by decide) rfl gA (by simp; omega) rfl fun u => ?_
          have gu : ((T.map eIs).set na.1.toNat (.val u))[na.1.toNat]? = some (.val u) := by simp [hA]
          refine Later.vc rfl ?_
          simp -dsimp -implicitDefEqProofs only [pick_nil, pick_cons, look_nil, look_cons, dropB_nil, dropB_cons, inD_nil, inD_cons, inE_nil, inE_cons, or_t_l, or_f_l, Nat.reduceBEq, Nat.reduceDiv, Nat.reduceAdd, beq_self_eq_true, uq0, uq1, ↓reduceIte, Nat.reduceEqDiff, uq2, uq3]
          simp -dsimp -implicitDefEqProofs only [go_sem, ↓reduceIte, hlt]
          (refine sCallT_io [1000000000] ?_; simp -dsimp -implicitDefEqProofs only [go_sem, ↓reduceIte]; refine sCallM_one (q3 _) ?_; simp -dsimp -implicitDefEqProofs only [go_sem, ↓reduceIte])
          ((repeat' (with_reducible refine And.intro ?_ ?_)); all_goals try (first | omega | (refine ⟨?_, ?_⟩ <;> omega) | (exact rfl)))
          simp -dsimp -implicitDefEqProofs only [go_sem, ↓reduceIte, hc3, gu, gk]
          ((repeat' (with_reducible refine And.intro ?_ ?_)); all_goals try (first | omega | (refine ⟨?_, ?_⟩ <;> omega) | (exact rfl)))
          (refine sCallT_io [1000000000] ?_; simp -dsimp -implicitDefEqProofs only [go_sem, ↓reduceIte]; refine sCallM_one (qj _) ?_; simp -dsimp -implicitDefEqProofs only [go_sem, ↓reduceIte])
          rw [hJj]
          simp -dsimp -implicitDefEqProofs only [go_sem, ↓reduceIte, gu, gk2]
          ((repeat' (with_reducible refine And.intro ?_ ?_)); all_goals try (first | omega | (refine ⟨?_, ?_⟩ <;> omega) | (exact rfl)))
          all_goals first
            | (refine RefP.back 20 0 na.1.toNat 91 0 _ _ _ u (by decide) rfl gu rfl (.here ?_)
               rw [List.set_set]
               simp -dsimp -implicitDefEqProofs only [go_sem, ↓reduceIte]
               ((repeat' (with_reducible refine And.intro ?_ ?_)); all_goals try (first | omega | (refine ⟨?_, ?_⟩ <;> omega) | (exact rfl)))
               all_goals first | (rw [← e3, List.map_set]; done) | trace_state)
            | trace_state
        · have e3 := setAt_map (setAt T na.1.toNat k) aj.1.toNat k
          rw [setAt_get hAJ] at e3
          have e4 := setAt_map T na.1.toNat k
          generalize T.getD na.1.toNat [] = R at *
          generalize T.getD aj.1.toNat [] = R2 at *
          have gk := get_some (show k < R.length by omega)
          have gk2 := get_some (show k < R2.length by omega)
          refine Later.takeOut 20 0 aj.1.toNat 91 _ _ ⟨1, false⟩ (by decide) rfl gJ (by simp; omega) rfl fun u2 => ?_
          refine Later.takeOut 20 0 na.1.toNat 90 _ _ ⟨1, false⟩ (by decide) rfl (by rw [List.getElem?_set_ne (Ne.symm hAJ)]; exact gA) (by simp; omega) rfl fun u => ?_
          have gu : (((T.map eIs).set aj.1.toNat (.val u2)).set na.1.toNat (.val u))[na.1.toNat]? = some (.val u) := by simp [hA]
          have gu2 : (((T.map eIs).set aj.1.toNat (.val u2)).set na.1.toNat (.val u))[aj.1.toNat]? = some (.val u2) := by rw [List.getElem?_set_ne hAJ]; simp [hJ]
          have e5 : ((((T.map eIs).set aj.1.toNat (.val u2)).set na.1.toNat (.val u)).set na.1.toNat (.arr ⟨1, false⟩ ((R.map eI).set k (eI 1)))).set aj.1.toNat (.arr ⟨1, false⟩ ((R2.map eI).set k (eI 1))) = (setAt (setAt T na.1.toNat k) aj.1.toNat k).map eIs := by
            rw [List.set_set, List.set_comm _ _ (Ne.symm hAJ), List.set_set, ← e3, ← e4, List.set_comm _ _ hAJ]
          refine Later.vc rfl ?_
          simp -dsimp -implicitDefEqProofs only [pick_nil, pick_cons, look_nil, look_cons, dropB_nil, dropB_cons, inD_nil, inD_cons, inE_nil, inE_cons, or_t_l, or_f_l, Nat.reduceBEq, Nat.reduceDiv, Nat.reduceAdd, beq_self_eq_true, uq0, uq1, ↓reduceIte, Nat.reduceEqDiff, uq2, uq3]
          simp -dsimp -implicitDefEqProofs only [go_sem, ↓reduceIte, hlt]
          (refine sCallT_io [1000000000] ?_; simp -dsimp -implicitDefEqProofs only [go_sem, ↓reduceIte]; refine sCallM_one (q3 _) ?_; simp -dsimp -implicitDefEqProofs only [go_sem, ↓reduceIte])
          ((repeat' (with_reducible refine And.intro ?_ ?_)); all_goals try (first | omega | (refine ⟨?_, ?_⟩ <;> omega) | (exact rfl)))
          simp -dsimp -implicitDefEqProofs only [go_sem, ↓reduceIte, hc3, gu, gk]
          ((repeat' (with_reducible refine And.intro ?_ ?_)); all_goals try (first | omega | (refine ⟨?_, ?_⟩ <;> omega) | (exact rfl)))
          refine sCallT_ioH 91 _ rfl [1000000000] ?_
          simp -dsimp -implicitDefEqProofs only [go_sem, ↓reduceIte]
          refine sCallM_one (qj _) ?_
          simp -dsimp -implicitDefEqProofs only [go_sem, ↓reduceIte, gu2, gk2]
          ((repeat' (with_reducible refine And.intro ?_ ?_)); all_goals try (first | omega | (refine ⟨?_, ?_⟩ <;> omega) | (exact rfl)))
          all_goals first
            | (refine RefP.back 20 0 na.1.toNat 90 0 _ _ _ u (by decide) rfl gu rfl ?_
               refine RefP.back 20 0 aj.1.toNat 91 0 _ _ _ u2 (by decide) rfl (by rw [List.set_set, List.getElem?_set_ne hAJ]; simp [hJ]) rfl (.here ?_)
               rw [e5]
               simp -dsimp -implicitDefEqProofs only [go_sem, ↓reduceIte]
               ((repeat' (with_reducible refine And.intro ?_ ?_)); all_goals try (first | omega | (refine ⟨?_, ?_⟩ <;> omega) | (exact rfl)))
               all_goals trace_state)
            | trace_state
    · obtain ⟨f1, f2, f3⟩ := hf c
      generalize fillTo bs r na.1.toNat (Z.1, na.2) c = F at *
      have tF := tk eIs F.1 r (by omega)
      have hge : decide ((c : Int) < c) = false := decide_eq_false (by omega)
      refine Later.vc rfl ?_
      simp -dsimp -implicitDefEqProofs only [pick_nil, pick_cons, look_nil, look_cons, dropB_nil, dropB_cons, inD_nil, inD_cons, inE_nil, inE_cons, or_t_l, or_f_l, Nat.reduceBEq, Nat.reduceDiv, Nat.reduceAdd, beq_self_eq_true, uq0, uq1, ↓reduceIte, Nat.reduceEqDiff, uq2, uq3]
      simp -dsimp -implicitDefEqProofs only [go_sem, ↓reduceIte, hge]
      ((repeat' (with_reducible refine And.intro ?_ ?_)); all_goals try (first | omega | (refine ⟨?_, ?_⟩ <;> omega) | (exact rfl)))
      all_goals first | (rw [tF]; done) | (simp; done) | trace_state
end Go.Vc


set_option linter.unusedVariables false
set_option linter.unusedSimpArgs false
set_option linter.unnecessarySimpa false
namespace Go.Vc
open Go.Proofs
set_option maxRecDepth 100000
set_option maxHeartbeats 4000000
theorem c_l15DrawCuts (v v2 : Nat) (bs : List UInt8) (m : MkM) (t : List (List Int)) (s : Src) (h : SrcOk s) (hm : isMk m = true) (ht : 1 ≤ t.length ∧ t.length ≤ 1000) (hl : bs.length ≤ 4096) :
    FnMR Tryz.prog 97 [srcB v bs s, .row v2 ⟨1, false⟩ true (t.map eIs)] [.ptr 1000000000 v 0 0, .agg [eI m.chambers, eI m.depths, eI m.step, eI m.same, eI m.least, .ref 1000000001 v2 0 t.length]]
      (fun x io => x = eIss (scutD bs m t.length s).1 ∧ io = [srcB v bs (scutD bs m t.length s).2, .row v2 ⟨1, false⟩ true (t.map eIs)]) := by
  refine FnMR.of_vc 42 [.tmp 4] Tryz.func97 rfl rfl rfl rfl rfl (of_decide_eq_true rfl) ?_
  have hn := isMk_num hm
  have hok := fun i => scutTo_ok (bs := bs) hm h i
  simp -dsimp -implicitDefEqProofs only [go_sem, ↓reduceIte]
  refine Later.up [0, 3] [11, 19, 20, 21] [7, 1000000000] t.length (fun _ => True) (fun i => [(6, eI i), (5, .ref 7 0 0 i)]) (fun i => [(7, .row 0 ⟨1, false⟩ (i == 0) ((scutTo bs m s i).1.map eIs)), (1000000000, srcB v bs (scutTo bs m s i).2)]) trivial ?_ rfl (fun i hi _ => ?_) (fun _ => ?_)
  · simp -dsimp -implicitDefEqProofs only [go_sem, ↓reduceIte, scutTo]
    ((repeat' (with_reducible refine And.intro ?_ ?_)); all_goals try (first | omega | (refine ⟨?_, ?_⟩ <;> omega) | (exact rfl)))
  · obtain ⟨o1, o2, o3⟩ := hok i
    have hlt : decide ((i : Int) < (t.length : Int)) = true := decide_eq_true (by omega)
    rw [scutTo_succ]
    generalize scutTo bs m s i = Z at *
    have qs := fun v => c_l02Some v bs Z.2 m o1 hm hl
    generalize cutsTo bs m.depths Z.2 m.chambers.toNat = G at *
    generalize someK m G.1 = K at *
    have tZ := tk eIs Z.1 i (by omega)
    have e0 : (i + 1 == 0) = false := rfl
    have e2 := mapS eIs Z.1 K
    simp -dsimp -implicitDefEqProofs only [pick_nil, pick_cons, look_nil, look_cons, dropB_nil, dropB_cons, inD_nil, inD_cons, inE_nil, inE_cons, or_t_l, or_f_l, Nat.reduceBEq, Nat.reduceDiv, Nat.reduceAdd, beq_self_eq_true, uq0, uq1, ↓reduceIte, Nat.reduceEqDiff, uq2, uq3]
    simp -dsimp -implicitDefEqProofs only [go_sem, ↓reduceIte, hlt]
    (refine sCallT_ioR [1000000000] ?_; simp -dsimp -implicitDefEqProofs only [go_sem, ↓reduceIte]; refine sCallMR_any (qs _) ?_; rintro _ _ ⟨rfl, rfl⟩; simp -dsimp -implicitDefEqProofs only [go_sem, ↓reduceIte])
    refine .inr ⟨by omega, by omega, (by cases i with | zero => exact .inr rfl | succ i => exact .inl rfl), ⟨by omega, by omega⟩, ?_⟩
    rw [e0, e2]
    simp -dsimp -implicitDefEqProofs only [go_sem, ↓reduceIte, tZ]
    ((repeat' (with_reducible refine And.intro ?_ ?_)); all_goals try (first | omega | (refine ⟨?_, ?_⟩ <;> omega) | (exact rfl)))
    all_goals first | (simp; done) | trace_state
  · obtain ⟨o1, o2, o3⟩ := hok t.length
    unfold scutD
    generalize scutTo bs m s t.length = Z at *
    have hge : decide ((t.length : Int) < (t.length : Int)) = false := decide_eq_false (by omega)
    have e0 : (t.length == 0) = false := by rw [beq_eq_false_iff_ne]; omega
    have q30 := fun v => c_l01Next v bs 30 Z.2 o1 hl
    have a := (nx_ok bs 30 o1).2.2.2
    generalize nx bs 30 Z.2 = n at *
    obtain ⟨RR, hR⟩ : ∃ RR, scutE bs m Z.1 n = RR := ⟨_, rfl⟩
    rw [hR, e0]
    unfold scutE at hR
    obtain ⟨Z, sz⟩ := Z
    simp only at o1 o2 o3 hR q30 ⊢
    have tZ := tk eIs Z t.length (by omega)
    simp -dsimp -implicitDefEqProofs only [pick_nil, pick_cons, look_nil, look_cons, dropB_nil, dropB_cons, inD_nil, inD_cons, inE_nil, inE_cons, or_t_l, or_f_l, Nat.reduceBEq, Nat.reduceDiv, Nat.reduceAdd, beq_self_eq_true, uq0, uq1, ↓reduceIte, Nat.reduceEqDiff, uq2, uq3]
    simp -dsimp -implicitDefEqProofs only [go_sem, ↓reduceIte, hge]
    (refine sCallT_io [1000000000] ?_; simp -dsimp -implicitDefEqProofs only [go_sem, ↓reduceIte]; refine sCallM_one (q30 _) ?_; simp -dsimp -implicitDefEqProofs only [go_sem, ↓reduceIte])
    cases h0 : (n.1 == 0) with
    | true =>
      rw [h0, if_pos rfl] at hR
      subst hR
      have qd := fun v => c_l02DrawCuts v bs m n.2 (mkB_of hm) a hl
      generalize cutsD bs m n.2 = D at *
      simp -dsimp -implicitDefEqProofs only [go_sem, ↓reduceIte, h0]
      (refine sCallT_io [1000000000] ?_; simp -dsimp -implicitDefEqProofs only [go_sem, ↓reduceIte]; refine sCallM_one (qd _) ?_; simp -dsimp -implicitDefEqProofs only [go_sem, ↓reduceIte])
      ((repeat' (with_reducible refine And.intro ?_ ?_)); all_goals try (first | omega | (refine ⟨?_, ?_⟩ <;> omega) | (exact rfl)))
      refine .inr ⟨by omega, by omega, ?_⟩
      rw [List.take_of_length_le (by simp; omega)]
      simp [List.map_set, eIs]
    | false =>
      rw [h0, if_neg (by simp)] at hR
      cases h1 : (n.1 == 1) with
      | true =>
        rw [h1, if_pos rfl] at hR
        subst hR
        have qs := fun v => c_l02Some v bs n.2 m a hm hl
        generalize cutsTo bs m.depths n.2 m.chambers.toNat = G at *
        generalize someK m G.1 = K at *
        have e2 := mapS eIs Z K
        simp -dsimp -implicitDefEqProofs only [go_sem, ↓reduceIte, h0, h1]
        (refine sCallT_ioR [1000000000] ?_; simp -dsimp -implicitDefEqProofs only [go_sem, ↓reduceIte]; refine sCallMR_any (qs _) ?_; rintro _ _ ⟨rfl, rfl⟩; simp -dsimp -implicitDefEqProofs only [go_sem, ↓reduceIte])
        refine .inr ⟨by omega, by omega, by omega, ?_⟩
        rw [tZ, List.take_of_length_le (by simp; omega)]
        simp [eIs]
      | false =>
        rw [h1, if_neg (by simp)] at hR
        subst hR
        simp -dsimp -implicitDefEqProofs only [go_sem, ↓reduceIte, h0, h1]
        ((repeat' (with_reducible refine And.intro ?_ ?_)); all_goals try (first | omega | (refine ⟨?_, ?_⟩ <;> omega) | (exact rfl)))
        all_goals first | (rw [tZ]; done) | (simp; done) | trace_state
theorem c_l15Draw (v : Nat) (bs : List UInt8) (s : Src) (h : SrcOk s) (hl : bs.length ≤ 4096) :
    FnMR Tryz.prog 58 [srcB v bs s] [.ptr 1000000000 v 0 0] (fun x io => x = .tup [eSy (sysD bs s).m (sysD bs s).t, eIss (sysD bs s).cuts] ∧ io = [srcB v bs (sysD bs s).src]) := by
  refine FnMR.of_vc 41 [.cell 2 28, .tmp 3] Tryz.func58 rfl rfl rfl rfl rfl (of_decide_eq_true rfl) ?_
  have qv := fun v => c_l15Valid v bs s h hl
  have ⟨t1, t2, t3, t4, t5⟩ := sysT_ok bs h
  have qc := fun v v2 => c_l15DrawCuts v v2 bs (mkV bs s).1 (sysT bs s).1 (sysT bs s).2 t1 t2 (by omega) hl
  have ⟨c1, c2, c3⟩ := scutD_ok (bs := bs) t2 t1 (sysT bs s).1.length
  have eC : scutD bs (mkV bs s).1 (sysT bs s).1.length (sysT bs s).2 = sysC2 bs s := rfl
  rw [eC] at c1 c2 c3
  simp only [eC] at qc
  clear eC
  have q30 := fun v => c_l01Next v bs 30 (sysC2 bs s).2 c1 hl
  have a := (nx_ok bs 30 c1).2.2.2
  obtain ⟨RR, hR⟩ : ∃ RR, sysD bs s = RR := ⟨_, rfl⟩
  rw [hR]
  unfold sysD at hR
  generalize nx bs 30 (sysC2 bs s).2 = n at *
  generalize sysC2 bs s = C at *
  have hr0 : 1 ≤ ((sysT bs s).1.getD 0 []).length := by omega
  generalize sysT bs s = T at *
  generalize (mkV bs s).1 = m at *
  obtain ⟨T, s1⟩ := T
  obtain ⟨C, s2⟩ := C
  simp only at t1 t3 t4 t5 c1 c2 c3 hr0 hR qv qc q30
  unfold sysE at hR
  have tT := tk eIs T T.length (Nat.le_refl _)
  simp -dsimp -implicitDefEqProofs only [go_sem, ↓reduceIte]
  refine sCallT_io [1000000000] ?_
  simp -dsimp -implicitDefEqProofs only [go_sem, ↓reduceIte]
  refine sCallM_any (qv _) ?_
  rintro _ _ ⟨rfl, rfl⟩
  simp -dsimp -implicitDefEqProofs only [go_sem, ↓reduceIte]
  refine sCallT_ioR [1000000000, 8005] ?_
  simp -dsimp -implicitDefEqProofs only [go_sem, ↓reduceIte]
  refine sCallMR_any (qc _ _) ?_
  rintro _ _ ⟨rfl, rfl⟩
  simp -dsimp -implicitDefEqProofs only [go_sem, ↓reduceIte]
  (refine sCallT_io [1000000000] ?_; simp -dsimp -implicitDefEqProofs only [go_sem, ↓reduceIte]; refine sCallM_one (q30 _) ?_; simp -dsimp -implicitDefEqProofs only [go_sem, ↓reduceIte])
  cases h0 : (n.1 == 0) with
  | true =>
    rw [h0, if_pos rfl] at hR
    subst hR
    have qp := fun v v2 => c_l01Pick v v2 true bs [-1, 0, 2] _ n.2 rfl (by simp) (by simp) a hl
    generalize pk bs [-1, 0, 2] n.2 = pp at *
    simp -dsimp -implicitDefEqProofs only [go_sem, ↓reduceIte, h0]
    obtain ⟨r0, T, rfl⟩ : ∃ r0 T', T = r0 :: T' := by cases T with
      | nil => simp at t3
      | cons r0 T => exact ⟨_, _, rfl⟩
    simp only [List.getD_cons_zero] at hr0
    obtain ⟨c0, r0, rfl⟩ : ∃ c0 r', r0 = c0 :: r' := by cases r0 with
      | nil => simp at hr0
      | cons c0 r0 => exact ⟨_, _, rfl⟩
    refine Later.takeOut 8005 0 0 90 _ ((c0 :: r0).map eI) ⟨1, false⟩ (by decide) rfl rfl (by rw [List.length_map]; exact hr0) rfl fun u => ?_
    refine Later.hook ?_
    refine Later.solo 7 mixed rfl ?_
    simp -dsimp -implicitDefEqProofs only [go_sem, ↓reduceIte]
    ((repeat' (with_reducible refine And.intro ?_ ?_)); all_goals try (first | omega | (refine ⟨?_, ?_⟩ <;> omega) | (exact rfl)))
    (refine sCallX_io [1000000000, 20] rfl ?_; simp -dsimp -implicitDefEqProofs only [go_sem, ↓reduceIte]; refine sCallMX_one (qp _ _) ?_; simp -dsimp -implicitDefEqProofs only [go_sem, ↓reduceIte])
    ((repeat' (with_reducible refine And.intro ?_ ?_)); all_goals try (first | omega | (refine ⟨?_, ?_⟩ <;> omega) | (exact rfl)))
    all_goals first
      | (refine hk.back 8005 0 0 90 0 _ _ _ u (by decide) rfl rfl rfl (hk.go ?_)
         simp -dsimp -implicitDefEqProofs only [go_sem, ↓reduceIte]
         ((repeat' (with_reducible refine And.intro ?_ ?_)); all_goals try (first | omega | (refine ⟨?_, ?_⟩ <;> omega) | (exact rfl)))
         all_goals first | (simp; done) | trace_state)
      | trace_state
  | false =>
    rw [h0, if_neg (by simp)] at hR
    cases h1 : (n.1 == 1) with
    | true =>
      rw [h1, if_pos rfl] at hR
      subst hR
      have qd := fun v => c_l02Draw v bs n.2 a hl
      generalize mkD bs n.2 = D at *
      simp -dsimp -implicitDefEqProofs only [go_sem, ↓reduceIte, h0, h1]
      refine Later.draw mixed rfl ?_
      simp -dsimp -implicitDefEqProofs only [go_sem, ↓reduceIte]
      ((repeat' (with_reducible refine And.intro ?_ ?_)); all_goals try (first | omega | (refine ⟨?_, ?_⟩ <;> omega) | (exact rfl)))
      (refine sCallX_io [1000000000] rfl ?_; simp -dsimp -implicitDefEqProofs only [go_sem, ↓reduceIte]; refine sCallMX_one (qd _) ?_; simp -dsimp -implicitDefEqProofs only [go_sem, ↓reduceIte])
      ((repeat' (with_reducible refine And.intro ?_ ?_)); all_goals try (first | omega | (refine ⟨?_, ?_⟩ <;> omega) | (exact rfl)))
      all_goals trace_state
    | false =>
      rw [h1, if_neg (by simp)] at hR
      cases h2 : (n.1 == 2) with
      | true =>
        rw [h2, if_pos rfl] at hR
        subst hR
        have qd := fun v => c_l11Draw v bs n.2 a hl
        generalize tabD bs n.2 = D at *
        simp -dsimp -implicitDefEqProofs only [go_sem, ↓reduceIte, h0, h1, h2]
        refine Later.draw mixed rfl ?_
        simp -dsimp -implicitDefEqProofs only [go_sem, ↓reduceIte]
        ((repeat' (with_reducible refine And.intro ?_ ?_)); all_goals try (first | omega | (refine ⟨?_, ?_⟩ <;> omega) | (exact rfl)))
        refine sCallX_ioR [1000000000] rfl ?_
        simp -dsimp -implicitDefEqProofs only [go_sem, ↓reduceIte]
        refine sCallMRX_one (qd _) ?_
        simp -dsimp -implicitDefEqProofs only [go_sem, ↓reduceIte]
        ((repeat' (with_reducible refine And.intro ?_ ?_)); all_goals try (first | omega | (refine ⟨?_, ?_⟩ <;> omega) | (exact rfl)))
        all_goals trace_state
      | false =>
        rw [h2, if_neg (by simp)] at hR
        subst hR
        simp -dsimp -implicitDefEqProofs only [go_sem, ↓reduceIte, h0, h1, h2]
        ((repeat' (with_reducible refine And.intro ?_ ?_)); all_goals try (first | omega | (refine ⟨?_, ?_⟩ <;> omega) | (exact rfl)))
        all_goals trace_state
end Go.Vc


