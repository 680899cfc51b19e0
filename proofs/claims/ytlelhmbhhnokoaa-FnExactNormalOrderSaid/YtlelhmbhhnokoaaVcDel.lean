/-
  A call that deletes one element of a row of ours.
-/
import Derived.Test.YtlelhmbhhnokoaaVcSort
import Derived.Laws.IdiomCopy
import Derived.Deep.Draws
set_option linter.unusedVariables false
set_option linter.unusedSimpArgs false
set_option linter.unnecessarySimpa false
namespace Go.Vc
theorem setCells_row {P : Program} {w : World} {b o : Nat} {cs : Array Value} {e : TypeId} {vs : List Value} (hb : w.heap[b]? = some (.cells cs e (0, 0))) (h1 : ∀ u, u ∈ vs → u.oneCell' = true) (hfit : o + vs.length ≤ cs.size) :
    w.setCells b o vs = w.setRow b (cs.toList.take o ++ vs ++ cs.toList.drop (o + vs.length)).toArray := by
  have e1 := run_storeCells_at P b o e vs 0 cs w hb (by simpa using hfit) h1
  have e2 := run_storeCells_cells (P := P) b o vs 0 w (fun j hj => by
    have hlt : o + 0 + j < cs.size := by omega
    simp [World.cell?, hb]; omega) (fun j hj => by simp [World.frozen?, hb]) h1
  simp only [Nat.add_zero] at e1 e2
  rw [e2] at e1
  injection e1
theorem own_one {w : World} {S : Nat → Prop} {x : AV} {l : List Value} {o : Nat} {sh : Sh} {fs : List Nat} (h : Own w S x (elemV l o sh) fs) (hf : fits sh x) (hl : o + sh.sz ≤ l.length) (c : Nat) (hc : c < sh.sz) : (l.getD (o + c) Go.undef).oneCell' = true := by
  cases sh with
  | mk sz ag =>
  simp only at hc hl
  have one : leaf x → ag = false ∧ sz = 1 → (l.getD (o + c) Go.undef).oneCell' = true := by
    rintro hlf ⟨rfl, rfl⟩
    have := h.leaf_oneCell hlf
    rw [elemV_cell] at this
    rw [show o + c = o by omega]; exact this
  cases x with
  | agg zs =>
    obtain ⟨rfl, hzl⟩ := hf
    obtain ⟨cs, fss, hcs, _, h1, h2, _, h3⟩ := own_agg h
    rw [elemV_agg] at hcs
    cases hcs
    have h4 := (h3 c (by rw [hzl]; exact hc)).leaf_oneCell (h2 _ (by rw [hzl]; exact hc))
    rw [show (((l.drop o).take sz).toArray.toList) = (l.drop o).take sz from rfl, getD_drop_take _ _ _ _ hc] at h4
    exact h4
  | undef => exact hf.elim
  | tup xs => exact hf.elim
  | _ => exact one trivial hf
/-- where an element of the shortened list stood -/
def skp (i p : Nat) : Nat := if p < i then p else p + 1
theorem erase_get {α : Type} (xs : List α) (i p : Nat) : (xs.eraseIdx i)[p]? = xs[skp i p]? := by
  rw [List.getElem?_eraseIdx]; unfold skp; split <;> rfl
section
variable {P : Program} {m : Mem}
theorem sCallT_del {f : FuncId} {d l ver i n : Nat} {sh : Sh} {xs xt : List AV} {zs : List Value} {k : AV → Mem → Prop} {q : Pack k} (hE : Enters P f) (hlk : lookB m l = some (.row ver sh true xs)) (hn : n = xs.length) (hi : i < xs.length) (hsz : 0 < sh.sz)
    (hzl : zs.length = sh.sz) (hz1 : ∀ u, u ∈ zs → u.oneCell' = true)
    (hc : ∀ (w : World) (b cap : Nat) (cs : Array Value) (e : TypeId), w.heap[b]? = some (.cells cs e (0, 0)) → cs.size = cap * sh.sz → cap ≤ 9223372036854775807 → xs.length ≤ cap → (∀ v, v ∈ (cs.toList.drop ((i + 1) * sh.sz)).take ((xs.length - (i + 1)) * sh.sz) → v.oneCell' = true) →
      Calls P f #[.slice (some ⟨b, 0, none⟩) xs.length cap, .int .i64 i, .int .i64 ((i + 1 : Nat) : Int)] w fun e' w' => e' = .returned (.slice (some ⟨b, 0, none⟩) (xs.length - 1) cap) ∧
        ∃ q, w' = ((w.drewN q).setCells b (i * sh.sz) ((cs.toList.drop ((i + 1) * sh.sz)).take ((xs.length - (i + 1)) * sh.sz))).setCells b ((xs.length - 1) * sh.sz) zs)
    (hk : k (.ref l (ver + 1) 0 (xs.length - 1)) ((l, .row (ver + 1) sh true (xs.eraseIdx i)) :: m)) : sCallT P f d [.ref l ver 0 n, .val (.int .i64 i), .val (.int .i64 ((i : Int) + 1))] xt m k q := by
  subst hn
  refine .inl fun B N φ fp S ts a w vs hR hvsz hx hxl => ⟨hE, ?_⟩
  obtain ⟨u, u1, u2, rfl⟩ : ∃ u u1 u2, vs = #[u, u1, u2] := by
    have : vs.size = 3 := hvsz
    exact ⟨vs[0], vs[1], vs[2], by
      apply Array.ext
      · simpa using this
      · intro j h1 h2
        have : j = 0 ∨ j = 1 ∨ j = 2 := by omega
        rcases this with rfl | rfl | rfl <;> rfl⟩
  have hx0 : RV w S φ (.ref l ver 0 xs.length) u := hx 0 (by simp)
  have hx1 : RV w S φ (.val (.int .i64 i)) u1 := hx 1 (by simp)
  have hx2 : RV w S φ (.val (.int .i64 ((i : Int) + 1))) u2 := hx 2 (by simp)
  obtain ⟨rfl, _⟩ := rv_val hx1
  obtain ⟨rfl, _⟩ := rv_val hx2
  obtain ⟨r1, r2⟩ := rv_ref hx0
  have hver : ∀ v', known m l v' → v' < ver + 1 := by
    rintro v' ⟨k', h1, h2⟩
    rw [hlk] at h1; cases h1; exact Nat.lt_succ_of_le h2
  rcases hR.mSome l _ hlk with ⟨hφ, hxs, _⟩ | ⟨b, cap, hφ, hbm, _, hown⟩
  · rw [hxs] at hi; exact absurd hi (Nat.not_lt_zero _)
  · simp only [if_true] at hown
    obtain ⟨ad, cap', rfl, hn, hcp⟩ := r1 b _ hφ
    rcases hcp with rfl | ⟨rfl, cs0, e0, hh0, hs0⟩
    · omega
    · rcases own_arr hown with ⟨hx1, hf0, _⟩ | ⟨b', cap2, cs, e, fss, q1, hgf, hheap, hcs, hcap, hmx, hff, hfl, hvv⟩
      · rw [hf0] at hbm; cases hbm
      · simp only [Value.slice.injEq, Option.some.injEq, Addr.mk.injEq] at q1
        obtain ⟨⟨rfl, _⟩, _, rfl⟩ := q1
        rw [hheap] at hh0
        simp only [Option.some.injEq, Obj.cells.injEq] at hh0
        obtain ⟨rfl, rfl, _⟩ := hh0
        rw [Nat.zero_add] at hs0
        have hcc : cap' = cap := Nat.eq_of_mul_eq_mul_right hsz (by rw [← hs0, hcs])
        subst hcc
        have hfit : xs.length * sh.sz ≤ cs.size := by rw [hcs]; exact Nat.mul_le_mul_right _ hcap
        have cell1 : ∀ p, p < xs.length → ∀ c, c < sh.sz → (cs.toList.getD (p * sh.sz + c) Go.undef).oneCell' = true := by
          intro p hp c hcl
          have h1 := mul_le_of_lt (s := sh.sz) hp
          exact own_one (hvv p hp) (hff p hp) (by rw [Array.length_toList]; omega) c hcl
        have hmul : ∀ p, (p + 1) * sh.sz = p * sh.sz + sh.sz := fun p => Nat.succ_mul p _
        obtain ⟨g1, hg1⟩ : ∃ g1, g1 = (xs.length - (i + 1)) * sh.sz := ⟨_, rfl⟩
        have hg2 : (i + 1) * sh.sz + g1 = xs.length * sh.sz := by rw [hg1, ← Nat.add_mul]; congr 1; omega
        have hg3 : (xs.length - 1) * sh.sz + sh.sz = xs.length * sh.sz := by rw [← hmul]; congr 1; omega
        have hg4 : i * sh.sz + g1 = (xs.length - 1) * sh.sz := by rw [hmul] at hg2; omega
        obtain ⟨news, hnews⟩ : ∃ news, news = (cs.toList.drop ((i + 1) * sh.sz)).take ((xs.length - (i + 1)) * sh.sz) := ⟨_, rfl⟩
        have hnl : news.length = g1 := by rw [hnews, hg1]; simp; omega
        have hnget : ∀ c, c < g1 → news.getD c Go.undef = cs.toList.getD ((i + 1) * sh.sz + c) Go.undef := by
          intro c hcl
          rw [hnews, getD_drop_take _ _ _ _ (by rw [← hg1]; exact hcl)]
        have hn1 : ∀ u, u ∈ news → u.oneCell' = true := by
          intro u hu
          obtain ⟨t, ht, rfl⟩ := List.getElem_of_mem hu
          have h2 := hnget t (by omega)
          rw [List.getD_eq_getElem?_getD, List.getElem?_eq_getElem ht] at h2
          simp only [Option.getD_some] at h2
          rw [h2]
          have h3 : ((i + 1) * sh.sz + t) / sh.sz < xs.length := by rw [Nat.div_lt_iff_lt_mul hsz]; omega
          have h4 := Nat.div_add_mod ((i + 1) * sh.sz + t) sh.sz
          have h5 := cell1 _ h3 _ (Nat.mod_lt ((i + 1) * sh.sz + t) hsz)
          rw [Nat.mul_comm] at h4
          rw [h4] at h5
          exact h5
        have hcr := hc w b cap' cs e hheap hcs (by unfold maxLen at hmx; omega) hcap (by rw [← hnews]; exact hn1)
        rw [← hnews] at hcr
        rw [show (0 : Nat) * sh.sz = 0 from Nat.zero_mul _]
        refine hcr.mono ?_
        rintro e' w' ⟨rfl, q', hw'⟩
        have hheapq : (w.drewN q').heap[b]? = some (.cells cs e (0, 0)) := hheap
        have hf1 : i * sh.sz + news.length ≤ cs.size := by rw [hnl]; omega
        rw [setCells_row (P := P) hheapq hn1 hf1] at hw'
        have hs1 := size_splice (cs := cs) hf1
        have hh1 := heap_setRow hheapq (cs.toList.take (i * sh.sz) ++ news ++ cs.toList.drop (i * sh.sz + news.length)).toArray
        have hget1 : ∀ c, c < (xs.length - 1) * sh.sz → (cs.toList.take (i * sh.sz) ++ news ++ cs.toList.drop (i * sh.sz + news.length)).toArray.toList.getD c Go.undef = if c < i * sh.sz then cs.toList.getD c Go.undef else cs.toList.getD (c + sh.sz) Go.undef := by
          intro c hcl
          show (cs.toList.take (i * sh.sz) ++ news ++ cs.toList.drop (i * sh.sz + news.length)).getD c Go.undef = _
          rw [splice_getD _ _ _ _ (by rw [Array.length_toList]; exact hf1)]
          by_cases h1 : c < i * sh.sz
          · rw [if_neg (by omega), if_pos h1]
          · rw [if_pos (by omega), if_neg h1, hnget _ (by omega), hmul]
            congr 1; omega
        generalize (cs.toList.take (i * sh.sz) ++ news ++ cs.toList.drop (i * sh.sz + news.length)).toArray = cs1 at hw' hs1 hh1 hget1
        have hf2 : (xs.length - 1) * sh.sz + zs.length ≤ cs1.size := by rw [hzl, hs1]; omega
        rw [setCells_row (P := P) hh1 hz1 hf2] at hw'
        have hs2 := size_splice (cs := cs1) hf2
        have hh2 := heap_setRow hh1 (cs1.toList.take ((xs.length - 1) * sh.sz) ++ zs ++ cs1.toList.drop ((xs.length - 1) * sh.sz + zs.length)).toArray
        have hget2 : ∀ c, c < (xs.length - 1) * sh.sz → (cs1.toList.take ((xs.length - 1) * sh.sz) ++ zs ++ cs1.toList.drop ((xs.length - 1) * sh.sz + zs.length)).toArray.toList.getD c Go.undef = if c < i * sh.sz then cs.toList.getD c Go.undef else cs.toList.getD (c + sh.sz) Go.undef := by
          intro c hcl
          rw [← hget1 c hcl]
          show (cs1.toList.take ((xs.length - 1) * sh.sz) ++ zs ++ cs1.toList.drop ((xs.length - 1) * sh.sz + zs.length)).getD c Go.undef = _
          rw [splice_getD _ _ _ _ (by rw [Array.length_toList]; exact hf2), if_neg (by omega)]
        have hoth : ∀ c, c ≠ b → w'.heap[c]? = w.heap[c]? := by
          intro c hcb
          rw [hw', heap_setRow_other _ hcb, heap_setRow_other _ hcb]; rfl
        have hwsz : w'.heap.size = w.heap.size := by rw [hw']; simp
        have hso : SameOut w w' := by rw [hw']; exact ⟨rfl, rfl, rfl⟩
        rw [← hw'] at hh2
        clear hw'
        generalize (cs1.toList.take ((xs.length - 1) * sh.sz) ++ zs ++ cs1.toList.drop ((xs.length - 1) * sh.sz + zs.length)).toArray = cs2 at hs2 hh2 hget2
        have hsz2 : cs2.size = cs.size := hs2.trans hs1
        have hszs : Szs w w' := by
          intro c cs3 e3 hc3
          by_cases ec : c = b
          · subst ec; rw [hheap] at hc3; cases hc3; exact ⟨cs2, e, hh2, hsz2⟩
          · exact ⟨cs3, e3, by rw [hoth c ec]; exact hc3, rfl⟩
        have hnod := hR.nod l
        rw [hgf] at hnod
        have hnod' := List.nodup_cons.1 hnod
        have hel : (xs.eraseIdx i).length = xs.length - 1 := by rw [List.length_eraseIdx, if_pos hi]
        have hpre : ((fss.eraseIdx i).flatten).Sublist fss.flatten := by
          rw [List.eraseIdx_eq_take_drop_succ, List.flatten_append]
          have e1 : fss.flatten = (fss.take i).flatten ++ ((fss.drop i).take 1).flatten ++ (fss.drop (i + 1)).flatten := by
            rw [List.append_assoc, ← List.flatten_append, ← List.flatten_append]
            congr 1
            rw [show fss.drop (i + 1) = (fss.drop i).drop 1 by rw [List.drop_drop], List.take_append_drop, List.take_append_drop]
          rw [e1]
          exact List.Sublist.append (List.sublist_append_left ..) (List.Sublist.refl _)
        have hfin : ∀ c, c ∈ (fss.eraseIdx i).flatten → c ∈ fp l := fun c hc => by rw [hgf]; exact List.mem_cons_of_mem _ (hpre.subset hc)
        refine ⟨_, rfl, hR.rowNext (b := b) (cap := cap') (n := xs.length - 1) (nv := ver + 1) (sh := sh) (deep := true) (xs := xs.eraseIdx i) (fs := b :: (fss.eraseIdx i).flatten) (by omega) hso hszs (fun c hcb _ => hoth c hcb)
          (fun l b sh ver cs e _ hb => hszs b cs e hb) (.inl hbm) hver (fun c hc => ?_) (List.mem_cons_self ..) (fun h => (by cases h)) (List.nodup_cons.2 ⟨fun hc => hnod'.1 (hpre.subset hc), hnod'.2.sublist hpre⟩) ?_ ?_ ⟨rfl, hk⟩⟩
        · rcases List.mem_cons.1 hc with rfl | hc
          · exact .inl rfl
          · exact .inr (hfin c hc)
        · show Own w' (fun _ => False) _ _ _
          refine .arr sh (xs.eraseIdx i) b cap' cs2 e (fss.eraseIdx i) hh2 (by rw [hsz2, hcs]) (by omega) hmx (fun p hp => ?_) (by rw [hel, List.length_eraseIdx, if_pos (by omega)]; omega) fun p hp => ?_
          · have hp1 : skp i p < xs.length := by unfold skp; split <;> omega
            have : (xs.eraseIdx i)[p] = xs[skp i p] := by
              have h1 := erase_get xs i p
              rw [List.getElem?_eq_getElem hp, List.getElem?_eq_getElem hp1] at h1
              exact Option.some.inj h1
            rw [this]; exact hff _ hp1
          · have hp1 : skp i p < xs.length := by unfold skp; split <;> omega
            have hp2 : p < xs.length - 1 := by omega
            have e1 : (xs.eraseIdx i)[p] = xs[skp i p] := by
              have h1 := erase_get xs i p
              rw [List.getElem?_eq_getElem hp, List.getElem?_eq_getElem hp1] at h1
              exact Option.some.inj h1
            have e2 : (fss.eraseIdx i).getD p [] = fss.getD (skp i p) [] := by
              rw [List.getD_eq_getElem?_getD, List.getD_eq_getElem?_getD, erase_get]
            have m1 := mul_le_of_lt (s := sh.sz) hp2
            have m2 := mul_le_of_lt (s := sh.sz) hp1
            have e3 : elemV cs2.toList (p * sh.sz) sh = elemV cs.toList (skp i p * sh.sz) sh := by
              refine elemV_ext (by rw [Array.length_toList, hsz2]; omega) (by rw [Array.length_toList]; omega) (fits_sz (hff _ hp1)) fun c hcl => ?_
              rw [hget2 _ (by omega)]
              unfold skp
              by_cases h1 : p < i
              · have := mul_le_of_lt (s := sh.sz) h1
                rw [if_pos (by omega), if_pos h1]
              · have : i * sh.sz ≤ p * sh.sz := Nat.mul_le_mul_right _ (by omega)
                rw [if_neg (by omega), if_neg h1, hmul]
                congr 1; omega
            rw [e1, e2, e3]
            exact (hvv _ hp1).mono (fun _ h => h.elim) (fun _ h => h) fun c hc2 => hoth c fun e => hnod'.1 (by rw [← e]; exact mem_flatten_getD (by omega) hc2)
        · exact ⟨some ⟨b, 0, none⟩, cap', rfl, by omega, .inr ⟨rfl, cs2, e, hh2, by rw [hsz2, hcs]⟩⟩
end
end Go.Vc
