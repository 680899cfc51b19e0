/-
  A callee that writes one row of its caller's, by a contract that speaks of cells: as the layer Vc's contract.
-/
import Derived.Test.YtlelhmbhhnokoaaVcNil
set_option linter.unusedVariables false
set_option linter.unusedSimpArgs false
set_option linter.unnecessarySimpa false
namespace Go.Vc
theorem FnM.row {P : Program} {f : FuncId} (v : Nat) (xs ys : List AV) (hlen : ys.length = xs.length) (hflat : isFlatL xs = true) (hfy : ∀ i (h : i < ys.length), fits ⟨1, false⟩ ys[i]) (hE : Enters P f)
    (hc : ∀ (w : World) (b cap : Nat) (cs : Array Value) (e : TypeId), w.heap[b]? = some (.cells cs e (0, 0)) → cs.size = cap → xs.length ≤ cap → (∀ i (h : i < xs.length), Rd w (fun _ => False) xs[i] (cs.toList.getD i Go.undef)) →
      Calls P f #[.slice (some ⟨b, 0, none⟩) xs.length cap] w fun e' w' => e' = .returned (.tuple #[]) ∧ ∃ cs' : Array Value, cs'.size = cs.size ∧ (∀ i (h : i < ys.length), Rd w' (fun _ => False) ys[i] (cs'.toList.getD i Go.undef)) ∧
        w'.heap[b]? = some (.cells cs' e (0, 0)) ∧ (∀ c : Nat, c ≠ b → c < w.heap.size → w'.heap[c]? = w.heap[c]?) ∧ w.heap.size ≤ w'.heap.size ∧ SameOut w w')
    (h0 : xs = [] → ∀ (a : Option Addr) (w : World), Calls P f #[.slice a 0 0] w fun e' w' => e' = .returned (.tuple #[]) ∧ Grown w w') :
    FnM P f [.row v ⟨1, false⟩ true xs] [.ref 1000000000 v 0 xs.length] (fun r io => r = .tup [] ∧ io = [.row v ⟨1, false⟩ true ys]) := by
  refine ⟨hE, fun w φ fp S vs hsz hR => ?_⟩
  have hv0 := hR.tm 0
  have hlk : lookB (ioM 0 [Blk.row v ⟨1, false⟩ true xs]) ioL = some (.row v ⟨1, false⟩ true xs) := rfl
  obtain ⟨u, rfl⟩ : ∃ u, vs = #[u] := by
    have : vs.size = 1 := hsz
    exact ⟨vs[0], by apply Array.ext <;> simp_all⟩
  have hx : RV w S φ (.ref 1000000000 v 0 xs.length) u := hv0
  obtain ⟨r1, r2⟩ := rv_ref hx
  have fin : ∀ (w' : World) (fp' : Nat → List Nat) (k : Blk), k = .row v ⟨1, false⟩ true ys → RS (ioB w φ fp S [.row v ⟨1, false⟩ true xs]) (#[u] : Array Value).size φ fp' S (argsE 0 [.ref 1000000000 v 0 xs.length]) ((ioL, k) :: ioM 0 [.row v ⟨1, false⟩ true xs]) { tmps := #[u], defers := [] } w' →
      ∃ r v' io' φ' fp' S' m', Ending.returned (Value.tuple #[]) = .returned v' ∧ (r = .tup [] ∧ io' = [Blk.row v ⟨1, false⟩ true ys]) ∧ RS (ioB w φ fp S [.row v ⟨1, false⟩ true xs]) 0 φ' fp' S' [] m' { tmps := #[], defers := [] } w' ∧ IoOk [.row v ⟨1, false⟩ true xs] io' m' ∧
        ∃ fs, Own w' (fun _ => False) r v' fs ∧ fs.Nodup ∧ ∀ b, b ∈ fs → w.heap.size ≤ b ∧ ¬ S' b ∧ ∀ l, ioL ≤ l → b ∉ fp' l := by
    rintro w' fp' k rfl h
    refine ⟨.tup [], .tuple #[], _, φ, fp', S, _, rfl, ⟨rfl, rfl⟩, { h with tm := fun t => by rw [look_nil]; exact .rd _ _ (.undef _), tl := fun t l ver hl => (by rw [look_nil] at hl; cases hl), defers := rfl, tsz := rfl }, ⟨rfl, fun j hj hj' => ?_⟩, [], .rd _ _ (.tup [] #[] rfl fun i hi => absurd hi (Nat.not_lt_zero _)), List.nodup_nil, fun b hb => by cases hb⟩
    have : j = 0 := by simpa using hj
    subst this
    exact ⟨by simp [lookB_cons], rfl, trivial⟩
  have nilCase : xs = [] → (∃ a, u = .slice a 0 0) → Calls P f #[u] w fun e' w' => ∃ r v' io' φ' fp' S' m', e' = .returned v' ∧ (r = .tup [] ∧ io' = [Blk.row v ⟨1, false⟩ true ys]) ∧ RS (ioB w φ fp S [.row v ⟨1, false⟩ true xs]) 0 φ' fp' S' [] m' { tmps := #[], defers := [] } w' ∧ IoOk [.row v ⟨1, false⟩ true xs] io' m' ∧
        ∃ fs, Own w' (fun _ => False) r v' fs ∧ fs.Nodup ∧ ∀ b, b ∈ fs → w.heap.size ≤ b ∧ ¬ S' b ∧ ∀ l, ioL ≤ l → b ∉ fp' l := by
    rintro h1 ⟨a, rfl⟩
    have hy : ys = [] := List.eq_nil_of_length_eq_zero (by rw [hlen, h1]; rfl)
    refine (h0 h1 a w).mono ?_
    rintro e' w' ⟨rfl, hg⟩
    have hR2 := hR.grown hg
    refine fin w' fp (.row v ⟨1, false⟩ true ys) rfl ?_
    have e1 : lookB (ioM 0 [Blk.row v ⟨1, false⟩ true xs]) = lookB ((ioL, .row v ⟨1, false⟩ true ys) :: ioM 0 [.row v ⟨1, false⟩ true xs]) := by
      funext l
      rw [lookB_cons]
      split
      · rename_i e; subst e; rw [hlk, h1, hy]
      · rfl
    have kn : ∀ l ver, known (ioM 0 [Blk.row v ⟨1, false⟩ true xs]) l ver → known ((ioL, .row v ⟨1, false⟩ true ys) :: ioM 0 [.row v ⟨1, false⟩ true xs]) l ver := by
      rintro l ver ⟨k', q1, q2⟩
      exact ⟨k', by rw [← e1]; exact q1, q2⟩
    exact { hR2 with tl := fun t l ver hl => kn l ver (hR2.tl t l ver hl), mNone := fun l hl => hR2.mNone l (by rw [e1]; exact hl), mSome := fun l k hk => hR2.mSome l k (by rw [e1]; exact hk), bl := fun l v xs hb l' ver hl => kn l' ver (hR2.bl l v xs (by rw [e1]; exact hb) l' ver hl), kn := fun l ver h1 h2 => kn l ver (hR2.kn l ver h1 h2) }
  rcases hR.mSome ioL _ hlk with ⟨hφ, hxs, _⟩ | ⟨b, cap, hφ, hbm, _, hown⟩
  · exact nilCase hxs (r2 hφ).2
  · simp only [if_true] at hown
    obtain ⟨a, cap', rfl, hn, hcp⟩ := r1 b _ hφ
    rcases hcp with rfl | ⟨rfl, cs0, e0, hh0, hs0⟩
    · have hx0 : xs = [] := List.eq_nil_of_length_eq_zero (by omega)
      exact nilCase hx0 ⟨a, by rw [hx0]; rfl⟩
    · rcases own_arr hown with ⟨hx0, hf0, _⟩ | ⟨b', cap2, cs, e, fss, q1, hgf, hheap, hcs, hcap, hmx, hff, hfl, hvv⟩
      · rw [hf0] at hbm; cases hbm
      · simp only [Value.slice.injEq, Option.some.injEq, Addr.mk.injEq] at q1
        obtain ⟨⟨rfl, _⟩, _, rfl⟩ := q1
        rw [hheap] at hh0
        simp only [Option.some.injEq, Obj.cells.injEq] at hh0
        obtain ⟨rfl, rfl, _⟩ := hh0
        simp only [Nat.mul_one, Nat.zero_add] at hs0 hcs
        have hfe : ∀ i (h : i < xs.length), Rd w (fun _ => False) xs[i] (cs.toList.getD i Go.undef) ∧ fss.getD i [] = [] := by
          intro i hi
          have := flat_rd (S' := fun _ => False) (hvv i hi) (isFlatL_get hflat i hi)
          rw [elemV_cell, Nat.mul_one] at this
          exact this
        have hfs : fss.flatten = [] := List.flatten_eq_nil_iff.2 fun l hl => by
          obtain ⟨i, hi, rfl⟩ := List.getElem_of_mem hl
          have := (hfe i (hfl ▸ hi)).2
          rwa [List.getD_eq_getElem?_getD, List.getElem?_eq_getElem hi] at this
        rw [hfs] at hgf
        refine (hc w b cap' cs e hheap hs0 hn fun i hi => (hfe i hi).1).mono ?_
        rintro e' w' ⟨rfl, cs', hs', hr', hb', hoth, hsize, hout⟩
        have hbl := (hR.fpB ioL b (by rw [hgf]; simp)).1
        have hnx := hR.next (w' := w') ioL (φ ioL) (fp ioL) S (.row v ⟨1, false⟩ true ys) hsize hout ?_ ?_ ?_ (fun c h1 h2 => absurd h1 h2) ?_ ?_ (fun ver _ => LS.le_refl _ _) ?_ ?_ (fun _ _ hk => by cases hk) (hR.nod ioL) ?_
        · have e1 : upd φ ioL (φ ioL) = φ := by funext l; by_cases e : l = ioL <;> simp [upd, e]
          rw [e1] at hnx
          exact fin w' _ _ rfl hnx
        · intro c cs2 e2 hc2
          by_cases ec : c = b
          · subst ec; rw [hheap] at hc2; cases hc2; exact ⟨cs', e, hb', hs'⟩
          · exact ⟨cs2, e2, by rw [hoth c ec (Array.getElem?_eq_some_iff.1 hc2).1]; exact hc2, rfl⟩
        · intro c hcl hio
          exact hoth c (fun ec => hio ioL (by subst ec; show c ∈ fp ioL; rw [hgf]; simp)) hcl
        · intro c hcS
          exact ⟨hcS, hoth c (fun ec => hR.notS ioL b (by rw [hgf]; simp) (ec ▸ hcS)) (hR.sB c hcS).1⟩
        · intro l c sh ver cs2 e2 _ hc2
          by_cases ec : c = b
          · subst ec; rw [hheap] at hc2; cases hc2; exact ⟨cs', e, hb', hs'⟩
          · exact ⟨cs2, e2, by rw [hoth c ec (Array.getElem?_eq_some_iff.1 hc2).1]; exact hc2, rfl⟩
        · intro l' hl' c hcl
          exact hoth c (fun ec => hl' (hR.dis l' ioL c hcl (by rw [ec, hgf]; simp))) (hR.fpB l' c hcl).1
        · rintro ver ⟨k', q1, q2⟩
          rw [hlk] at q1; cases q1; exact q2
        · refine .inr ⟨b, cap, by rw [upd_same]; exact hφ, by rw [hgf]; simp, fun h => (by cases h), ?_⟩
          rw [hgf]
          have e2 : [b] = b :: (List.replicate ys.length ([] : List Nat)).flatten := by
            congr 1
            exact (List.flatten_eq_nil_iff.2 fun l hl => (List.mem_replicate.1 hl).2).symm
          show Own w' (fun _ => False) _ _ [b]
          rw [e2]
          refine .arr ⟨1, false⟩ ys b cap cs' e _ hb' (by rw [hs', hcs]; simp) (by omega) hmx hfy (by simp) fun i hi => ?_
          have e3 : (List.replicate ys.length ([] : List Nat)).getD i [] = [] := by simp [List.getD_eq_getElem?_getD, hi]
          rw [e3, elemV_cell, Nat.mul_one]
          exact .rd _ _ (hr' i hi)
        · intro c hc2
          have := hR.fpB ioL c hc2
          exact ⟨hR.notS ioL c hc2, fun l' hl' hc' => hl' (hR.dis l' ioL c hc' hc2), Nat.lt_of_lt_of_le this.1 hsize, this.2⟩
end Go.Vc
