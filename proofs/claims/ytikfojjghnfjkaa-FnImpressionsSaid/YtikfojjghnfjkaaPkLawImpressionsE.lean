import Derived.Test.YtikfojjghnfjkaaPkLawImpressionsD
/-
  Contracts: picking from a list by the source; a source from a code.
-/
set_option linter.unusedVariables false
set_option linter.unusedSimpArgs false
set_option linter.unnecessarySimpa false
namespace Go.Vc
open Go.Proofs
set_option maxRecDepth 100000
def pk (bs : List UInt8) (xs : List Int) (s : Src) : Int × Src := (xs.getD (nx bs xs.length s).1.toNat 0, (nx bs xs.length s).2)
theorem pk_ok (bs : List UInt8) (xs : List Int) {s : Src} (h : SrcOk s) : SrcOk (pk bs xs s).2 := (nx_ok bs xs.length h).2.2.2
theorem pk_mem (bs : List UInt8) {xs : List Int} {s : Src} (h : SrcOk s) (h0 : xs ≠ []) : (pk bs xs s).1 ∈ xs := by
  obtain ⟨h1, h2, h3, _⟩ := nx_ok bs xs.length h
  have hl : 0 < xs.length := List.length_pos_iff.2 h0
  have : (nx bs xs.length s).1.toNat < xs.length := by
    by_cases h : (xs.length : Int) ≤ 1
    · rw [h2 h]; exact hl
    · have := h3 (by omega); omega
  show xs.getD _ 0 ∈ xs
  rw [List.getD_eq_getElem?_getD, List.getElem?_eq_getElem this]
  exact List.getElem_mem this
theorem c_l01Pick (v v2 : Nat) (d : Bool) (bs : List UInt8) (xs : List Int) (ys : List AV) (s : Src) (hy : ys = xs.map eI) (h0 : 0 < xs.length) (hx : xs.length ≤ 1000) (h : SrcOk s) (hl : bs.length ≤ 4096) :
    FnM Try.prog 92 [srcB v bs s, .row v2 ⟨1, false⟩ d ys] [.ptr 1000000000 v 0 0, .ref 1000000001 v2 0 xs.length] (fun x io => x = eI (pk bs xs s).1 ∧ io = [srcB v bs (pk bs xs s).2, .row v2 ⟨1, false⟩ d ys]) := by
  subst hy
  refine FnM.of_vcN 12 [.tmp 4] Try.func92 rfl rfl rfl rfl rfl (of_decide_eq_true rfl) ?_
  obtain ⟨h1, h2, h3, h4⟩ := nx_ok bs xs.length h
  have hc := fun v => c_l01Next v bs xs.length s h hl
  have hi : (nx bs xs.length s).1.toNat < xs.length := by
    by_cases h : (xs.length : Int) ≤ 1
    · rw [h2 h]; exact h0
    · have := h3 (by omega); omega
  have gi := get_some hi
  have hp : (pk bs xs s).1 = xs[(nx bs xs.length s).1.toNat] := by rw [pk]; simp [List.getD_eq_getElem?_getD, hi]
  have hp2 : (pk bs xs s).2 = (nx bs xs.length s).2 := rfl
  rw [hp, hp2]
  clear hp hp2
  simp -dsimp -implicitDefEqProofs only [go_sem, ↓reduceIte, Nat.reduceEqDiff, Nat.reduceLT, Nat.reduceAdd, Nat.reduceMul, Nat.reduceLeDiff, Nat.le_refl, Int.natCast_zero, Int.toNat_natCast, Int.reduceToNat]
  repeat' first
    | (with_reducible refine And.intro ?_ ?_)
    | (refine sCallT_io [1000000000] ?_; simp -dsimp -implicitDefEqProofs only [go_sem, ↓reduceIte, Nat.reduceEqDiff, Nat.reduceLT, Nat.reduceAdd, Nat.reduceMul, Nat.reduceLeDiff, Nat.le_refl, Int.natCast_zero, Int.toNat_natCast, Int.reduceToNat]; refine sCallM_one (hc _) ?_; simp -dsimp -implicitDefEqProofs only [go_sem, ↓reduceIte, Nat.reduceEqDiff, Nat.reduceLT, Nat.reduceAdd, Nat.reduceMul, Nat.reduceLeDiff, Nat.le_refl, Int.natCast_zero, Int.toNat_natCast, Int.reduceToNat, gi])
  all_goals first
    | omega
    | (refine ⟨?_, ?_⟩ <;> omega)
    | (refine ⟨?_, ?_⟩ <;> first | omega | rfl)
    | rfl
    | (simp; done)
    | trace_state
end Go.Vc

/-
  Contracts of functions that write blocks of their caller's and whose result is readable.
-/
set_option linter.unusedVariables false
set_option linter.unusedSimpArgs false
set_option linter.unnecessarySimpa false
namespace Go.Vc

/-- As FnM, but the result is what may be read for good. -/
def FnMR (P : Program) (f : FuncId) (io : List Blk) (args : List AV) (post : AV → List Blk → Prop) : Prop :=
  Enters P f ∧ ∀ (w : World) (φ : Nat → LS) (fp : Nat → List Nat) (S : Nat → Prop) (vs : Array Value), vs.size = args.length →
    RS (ioB w φ fp S io) vs.size φ fp S (argsE 0 args) (ioM 0 io) { tmps := vs, defers := [] } w →
    Calls P f vs w fun e w' => ∃ r v io' φ' fp' S' m', e = .returned v ∧ post r io' ∧ RS (ioB w φ fp S io) 0 φ' fp' S' [] m' { tmps := #[], defers := [] } w' ∧ IoOk io io' m' ∧ Rd w' S' r v

def finMR (P : Program) (rs : List ResultVar) (vers : List Nat) (post : AV → List Blk → Prop) : Post
  | .normal => fun ts m => sResults P (fun xs => sGivAs (fun ys m' => labsL ys = [] ∧ sIoB m' (fun io' => post (mkRes ys) io') 0 vers []) [] m xs) rs ts m []
  | .ret => fun ts m => sResults P (fun xs => sGivAs (fun ys m' => labsL ys = [] ∧ sIoB m' (fun io' => post (mkRes ys) io') 0 vers []) [] m xs) rs ts m []
  | _ => fun _ _ => False
theorem finMR_normal (P : Program) (rs : List ResultVar) (vers : List Nat) (post : AV → List Blk → Prop) (ts : Env) (m : Mem) :
    finMR P rs vers post .normal ts m = sResults P (fun xs => sGivAs (fun ys m' => labsL ys = [] ∧ sIoB m' (fun io' => post (mkRes ys) io') 0 vers []) [] m xs) rs ts m [] := rfl
theorem finMR_ret (P : Program) (rs : List ResultVar) (vers : List Nat) (post : AV → List Blk → Prop) (ts : Env) (m : Mem) :
    finMR P rs vers post .ret ts m = sResults P (fun xs => sGivAs (fun ys m' => labsL ys = [] ∧ sIoB m' (fun io' => post (mkRes ys) io') 0 vers []) [] m xs) rs ts m [] := rfl

theorem FnMR.of_vc' {P : Program} {f : FuncId} {fn : Func} {c : Code} {io : List Blk} {args : List AV} {post : AV → List Blk → Prop} (hf : P.funcs[f]? = some fn) (hn : (fn.name == "runtime.NumGoroutine") = false) (hb : fn.body = some c)
    (hok : codeOk fn.ntmps c = true) (ha : args.length ≤ fn.ntmps) (hv : vc P fn.ntmps c (argsE 0 args) (ioM 0 io) (finMR P fn.results.toList (io.map Blk.ver) post)) : FnMR P f io args post := by
  refine ⟨⟨fn, c, hf, hn, hb⟩, fun w φ fp S vs hsz hR0 => ?_⟩
  refine calls_of_wp hf hb ?_
  have hRS : RS (ioB w φ fp S io) fn.ntmps φ fp S (argsE 0 args) (ioM 0 io) { tmps := vs ++ Array.replicate (fn.ntmps - vs.size) undef, defers := [] } w := by
    refine { hR0 with tm := fun t => ?_, defers := rfl, tsz := by simp; omega }
    by_cases h : t < args.length
    · have h1 := hR0.tm t
      have : vs.getD t Go.undef = (vs ++ Array.replicate (fn.ntmps - vs.size) undef).getD t Go.undef := by
        have h2 : t < vs.size := by omega
        simp only [Array.getD_eq_getD_getElem?]
        rw [Array.getElem?_append_left h2]
      rw [← this]; exact h1
    · rw [look_argsE]
      have : (if 0 ≤ t then (args[t - 0]?).getD AV.undef else .undef) = .undef := by simp [List.getElem?_eq_none (show args.length ≤ t by omega)]
      rw [this]; exact .rd _ _ (.undef _)
  have hend : ∀ a' w', Done (ioB w φ fp S io) fn.ntmps (fun ts m => sResults P (fun xs => sGivAs (fun ys m' => labsL ys = [] ∧ sIoB m' (fun io' => post (mkRes ys) io') 0 (io.map Blk.ver) []) [] m xs) fn.results.toList ts m []) a' w' →
      a'.defers = [] ∧ ∃ v, (results fn a'.tmps).run P w' = .ok v w' ∧ ∃ r v' io' φ' fp' S' m', Ending.returned v = .returned v' ∧ post r io' ∧ RS (ioB w φ fp S io) 0 φ' fp' S' [] m' { tmps := #[], defers := [] } w' ∧ IoOk io io' m' ∧
        Rd w' S' r v' := by
    rintro a' w' ⟨φ0, fp0, S0, ts', m0, h0, hk⟩
    refine ⟨h0.defers, ?_⟩
    obtain ⟨ys0, us, h1, h2, h3, h4⟩ := results_out' h0 fn.results.toList [] [] ⟨rfl, fun i hi => absurd hi (Nat.not_lt_zero _)⟩ (fun i hi => absurd hi (Nat.not_lt_zero _)) hk
    obtain ⟨φ', fp', S', m', ys, hgv, h3, hlab, h1⟩ := givAs_out ys0 us [] [] h0 (by simpa using h3) ⟨rfl, fun i hi => absurd hi (Nat.not_lt_zero _)⟩ h1
    have h' := hgv.rs
    obtain ⟨h3a, h3b⟩ := h3
    simp only [List.nil_append] at h3a h3b
    obtain ⟨io', q1, q2, q3⟩ := sIo_out _ _ _ h1
    rw [List.reverse_nil, List.nil_append] at q1
    refine ⟨if h : us.toArray.size = 1 then us.toArray[0] else .tuple us.toArray, ?_, mkRes ys, _, io', φ', fp', S', m', rfl, q1, ?_, ⟨by simpa using q2, fun k hk hk' => ?_⟩, rd_of_rv (mkRes_rv h3a h3b) (labs_mkRes hlab)⟩
    · have hm : results fn a'.tmps = (do let vs ← fn.results.mapM (resOne a'.tmps); pure (if h : vs.size = 1 then vs[0] else .tuple vs)) := by
        unfold results
        congr 1
      rw [hm, Sem.run_bind, Array.mapM_eq_mapM_toList]
      have : (List.toArray <$> fn.results.toList.mapM (resOne a'.tmps) : Sem (Array Value)).run P w' = .ok us.toArray w' := by
        rw [map_eq_pure_bind, Sem.run_bind, h2]; rfl
      rw [this]; rfl
    · exact { h' with tm := fun t => by rw [look_nil]; exact .rd _ _ (.undef _), tl := fun t l ver hl => (by rw [look_nil] at hl; cases hl), defers := rfl, tsz := rfl }
    · have := q3 k hk (by simpa using hk')
      rw [Nat.zero_add] at this
      refine ⟨this.1, ?_, this.2.2⟩
      rw [this.2.1, List.getElem_map]
  refine wp_mono (vc_sound c _ _ _ hok hv _ _ _ _ _ _ hRS) ?_
  intro e a' w' hq
  cases e with
  | normal => exact hend a' w' hq
  | ret => exact hend a' w' hq
  | _ => obtain ⟨_, _, _, _, _, _, hh⟩ := hq; exact hh.elim
theorem FnMR.of_vc {P : Program} {f : FuncId} {fn : Func} {c : Code} {io : List Blk} {args : List AV} {post : AV → List Blk → Prop} (N : Nat) (rs : List ResultVar) (hf : P.funcs[f]? = some fn) (hN : fn.ntmps = N) (hr : fn.results.toList = rs)
    (hn : (fn.name == "runtime.NumGoroutine") = false) (hb : fn.body = some c) (hok : codeOk N c = true) (ha : args.length ≤ N) (hv : vc P N c (argsE 0 args) (ioM 0 io) (finMR P rs (io.map Blk.ver) post)) : FnMR P f io args post := by
  subst hN; subst hr; exact FnMR.of_vc' hf hn hb hok ha hv

section
variable {P : Program} {B : Base} {N : Nat} {φ : Nat → LS} {fp : Nat → List Nat} {S : Nat → Prop} {ts : Env} {m : Mem} {a : Act} {w : World}
theorem callMR_core {f : FuncId} {ρ : List Nat} {io : List Blk} {args xs : List AV} (hnd : ρ.Nodup) (hio : io.length = ρ.length)
    (hlk : ∀ j (h : j < ρ.length) (h' : j < io.length), lookB m ρ[j] = some io[j] ∧ labFree io[j]) {vs : Array Value} (h : RS B N φ fp S ts m a w) (hvl : vs.size = args.length)
    (hx : ∀ i (h : i < args.length), RV w S (φio φ ρ) args[i] (vs.toList.getD i Go.undef) ∧ ∀ l ver, (l, ver) ∈ labs args[i] → known (ioM 0 io) l ver) {post : AV → List Blk → Prop} (hf : FnMR P f io args post) :
    Calls P f vs w fun e w' => ∃ v r io' fp2 T, e = .returned v ∧ post r io' ∧ RS B N φ fp2 T ts (putIo ρ io' m) a w' ∧ Rd w' T r v := by
  have inj : ∀ i j (hi : i < ρ.length) (hj : j < ρ.length), ρ[i] = ρ[j] → i = j := fun i j hi hj e => (List.getElem_inj hnd).1 e
  have look0 : ∀ l, lookB (ioM 0 io) l = if ioL ≤ l then io[l - ioL]? else none := fun l => by rw [lookB_ioM]; rfl
  have at_ : ∀ l b, lookB (ioM 0 io) l = some b → ∃ j, ∃ hj : j < ρ.length, ∃ hj' : j < io.length, l = ioL + j ∧ b = io[j] := by
    intro l b hb
    rw [look0] at hb
    split at hb
    · rename_i hl
      obtain ⟨hj, e⟩ := List.getElem?_eq_some_iff.1 hb
      exact ⟨l - ioL, by omega, hj, by omega, e.symm⟩
    · cases hb
  have hR0 : RS (ioB w (φio φ ρ) (fpio fp ρ) S io) vs.size (φio φ ρ) (fpio fp ρ) S (argsE 0 args) (ioM 0 io) { tmps := vs, defers := [] } w := by
    refine { tm := fun t => ?_, tl := fun t l ver hl => ?_, mNone := fun l hl => ?_, mSome := fun l b hb => ?_, bl := fun l v xs hb l' ver hl => ?_, nod := fun l => ?_, dis := fun l l' b h1 h2 => ?_,
             notS := fun l b hb => ?_, fpB := fun l b hb => ?_, sB := fun b hb => ⟨(h.sB b hb).1, .inr hb⟩, base := fun b _ _ => rfl, out := SameOut.refl _, szs := Szs.refl _, kn := fun _ _ _ hk => hk, fix := fun _ _ _ _ => LS.le_refl _ _,
             size := Nat.le_refl _, defers := rfl, tsz := rfl, kon := h.kon }
    · rw [look_argsE]
      by_cases ht : t < args.length
      · have e : (if 0 ≤ t then (args[t - 0]?).getD AV.undef else .undef) = args[t] := by simp [ht]
        rw [e]
        have := (hx t ht).1
        have e2 : vs.toList.getD t Go.undef = vs.getD t Go.undef := by
          simp [List.getD_eq_getElem?_getD, Array.getD_eq_getD_getElem?]
        rw [← e2]; exact this
      · have e : (if 0 ≤ t then (args[t - 0]?).getD AV.undef else .undef) = .undef := by simp [List.getElem?_eq_none (show args.length ≤ t by omega)]
        rw [e]; exact .rd _ _ (.undef _)
    · rw [look_argsE] at hl
      by_cases ht : t < args.length
      · have e : (if 0 ≤ t then (args[t - 0]?).getD AV.undef else .undef) = args[t] := by simp [ht]
        rw [e] at hl
        exact (hx t ht).2 l ver hl
      · have e : (if 0 ≤ t then (args[t - 0]?).getD AV.undef else .undef) = .undef := by simp [List.getElem?_eq_none (show args.length ≤ t by omega)]
        rw [e] at hl; cases hl
    · rw [look0] at hl
      unfold φio fpio
      split at hl
      · rename_i hl'
        have : ρ[l - ioL]? = none := List.getElem?_eq_none (by have := List.getElem?_eq_none_iff.1 hl; omega)
        rw [if_pos hl', if_pos hl', this]; exact ⟨rfl, rfl⟩
      · rename_i hl'
        rw [if_neg hl', if_neg hl']; exact ⟨rfl, rfl⟩
    · obtain ⟨j, hj, hj', rfl, rfl⟩ := at_ l b hb
      have hb0 := h.mSome ρ[j] _ (hlk j hj hj').1
      have hfr := (hlk j hj hj').2
      rw [fpio_at fp hj]
      generalize io[j] = b at hb0 hfr
      cases b with
      | gone v => exact ⟨by rw [φio_at φ hj]; exact hb0.1, hb0.2⟩
      | row v sh dp xs =>
        rcases hb0 with ⟨q1, q2, q3⟩ | ⟨b, cap, q1, q2⟩
        · exact .inl ⟨by rw [φio_at φ hj]; exact q1, q2, q3⟩
        · exact .inr ⟨b, cap, by rw [φio_at φ hj]; exact q1, q2⟩
      | lent v xs i u => exact hfr.elim
      | box v xs =>
        obtain ⟨b, cs, e, sh, q1, q2, q3, q4, q5, q6⟩ := hb0
        exact ⟨b, cs, e, sh, by rw [φio_at φ hj]; exact q1, q2, q3, q4, q5, fun i hi => .rd _ _ (rd_of_rv (q6 i hi) (labs_nil_get hfr i hi))⟩
    · obtain ⟨j, hj, hj', rfl, e⟩ := at_ l _ hb
      have hfr := (hlk j hj hj').2
      rw [← e] at hfr
      have hfr : labsL xs = [] := hfr
      rw [hfr] at hl; cases hl
    · unfold fpio
      split
      · split
        · exact h.nod _
        · exact List.nodup_nil
      · exact List.nodup_nil
    · obtain ⟨i, hi, rfl, b1⟩ := fpio_mem h1
      obtain ⟨j, hj, rfl, b2⟩ := fpio_mem h2
      have := inj i j hi hj (h.dis _ _ b b1 b2)
      subst this; rfl
    · obtain ⟨i, hi, rfl, b1⟩ := fpio_mem hb
      exact h.notS _ b b1
    · obtain ⟨i, hi, rfl, b1⟩ := fpio_mem hb
      exact ⟨(h.fpB _ b b1).1, .inr ⟨_, hb, by omega, .inl rfl⟩⟩
  refine (hf.2 w (φio φ ρ) (fpio fp ρ) S vs hvl hR0).mono ?_
  rintro e w' ⟨r, v, io', φ', fp', S', m', rfl, hpost, hR, ⟨hl', hok⟩, hrd⟩
  have hl2 : io'.length = ρ.length := hl'.trans hio
  have hsame : ∀ b : Nat, b < w.heap.size → (∀ j (hj : j < ρ.length), b ∉ fp ρ[j]) → w'.heap[b]? = w.heap[b]? := fun b hb hn => hR.base b hb fun l hb' => by
    obtain ⟨j, hj, rfl, hb2⟩ := fpio_mem hb'
    exact hn j hj hb2
  have hSsame : ∀ b, S b → w'.heap[b]? = w.heap[b]? := fun b hb => hsame b (h.sB b hb).1 fun j hj hb' => h.notS _ b hb' hb
  have hz : Sized φ w w' := fun l b sh ver cs e _ hb => hR.szs b cs e hb
  have hm2 := fun l => lookB_putIo (m := m) ρ io' hl2 hnd l
  have hkn : ∀ l ver, known m l ver → known (putIo ρ io' m) l ver := by
    rintro l ver ⟨k', h1, h2⟩
    by_cases hl : l ∈ ρ
    · obtain ⟨j, hj, rfl⟩ := List.getElem_of_mem hl
      have e := (hm2 ρ[j]).1 j hj rfl
      rw [List.getElem?_eq_getElem (by omega)] at e
      rw [(hlk j hj (by omega)).1] at h1
      have h1 := Option.some.inj h1
      exact ⟨_, e, by rw [(hok j (by omega) (by omega)).2.1, h1]; exact h2⟩
    · exact ⟨k', ((hm2 l).2 hl).trans h1, h2⟩
  let T : Nat → Prop := fun b => S b ∨ (S' b ∧ w.heap.size ≤ b)
  have hST : ∀ b, S' b → T b := fun b hb => by
    rcases (hR.sB b hb).2 with hh | hh
    · exact .inr ⟨hb, hh⟩
    · exact .inl hh
  let fp2 : Nat → List Nat := fun l => match ρ.idxOf? l with | some j => fp' (ioL + j) | none => fp l
  have fp2in : ∀ j (hj : j < ρ.length), fp2 ρ[j] = fp' (ioL + j) := by
    intro j hj
    have : ρ.idxOf? ρ[j] = some j := by
      rw [List.idxOf?, List.findIdx?_eq_some_iff_getElem]
      refine ⟨hj, by simp, fun i hi => ?_⟩
      simp only [beq_iff_eq, Bool.not_eq_true, beq_eq_false_iff_ne, ne_eq]
      intro e2
      have := inj i j (by omega) hj e2
      omega
    show (match ρ.idxOf? ρ[j] with | some j => fp' (ioL + j) | none => fp ρ[j]) = _
    rw [this]
  have fp2out : ∀ l, l ∉ ρ → fp2 l = fp l := by
    intro l hl
    have : ρ.idxOf? l = none := by simpa [List.idxOf?_eq_none_iff] using hl
    show (match ρ.idxOf? l with | some j => fp' (ioL + j) | none => fp l) = _
    rw [this]
  have fpnew : ∀ j (hj : j < ρ.length) b, b ∈ fp' (ioL + j) → b < w'.heap.size ∧ (w.heap.size ≤ b ∨ b ∈ fp ρ[j]) := by
    intro j hj b hb
    have := hR.fpB _ b hb
    refine ⟨this.1, this.2.imp id fun hh => ?_⟩
    obtain ⟨l', hb2, _, hl3⟩ := hh
    have hl3 : l' = ioL + j := hl3.resolve_right fun e => by
      have e : lookB (ioM 0 io) (ioL + j) = none := e
      rw [look0, if_pos (by omega), List.getElem?_eq_none_iff] at e; omega
    subst hl3
    have hh : b ∈ fpio fp ρ (ioL + j) := hb2
    rwa [fpio_at fp hj] at hh
  have hRS : RS B N φ fp2 T ts (putIo ρ io' m) a w' := by
    refine { tm := fun t => (h.tm t).mono hSsame (fun b hb => .inl hb) hz fun l ver _ => LS.le_refl _ _, tl := fun t l ver hl => hkn l ver (h.tl t l ver hl), mNone := fun l hl => ?_, mSome := fun l b hb => ?_,
             bl := fun l v xs hb l' ver hl => ?_, nod := fun l => ?_, dis := fun l l' b h1 h2 => ?_, notS := fun l b hb => ?_, fpB := fun l b hb => ?_, sB := fun b hb => ?_, base := fun b hb hio => ?_,
             out := h.out.trans hR.out, szs := h.szs.trans hR.szs, kn := fun l ver hl hk => hkn l ver (h.kn l ver hl hk), fix := h.fix, size := Nat.le_trans h.size hR.size, defers := h.defers, tsz := h.tsz, kon := h.kon.mono hSsame fun b hb => .inl hb }
    · by_cases hm : l ∈ ρ
      · obtain ⟨j, hj, rfl⟩ := List.getElem_of_mem hm
        rw [(hm2 ρ[j]).1 j hj rfl, List.getElem?_eq_getElem (by omega)] at hl; cases hl
      · rw [(hm2 l).2 hm] at hl
        rw [fp2out l hm]; exact h.mNone l hl
    · by_cases hm : l ∈ ρ
      · obtain ⟨j, hj, rfl⟩ := List.getElem_of_mem hm
        rw [(hm2 ρ[j]).1 j hj rfl, List.getElem?_eq_getElem (by omega)] at hb
        have hb := Option.some.inj hb
        subst hb
        obtain ⟨g1, g2, g3⟩ := hok j (by omega) (by omega)
        have hB := hR.mSome _ _ g1
        have hkn0 : known (ioM 0 io) (ioL + j) (io[j]'(by omega)).ver := ⟨io[j]'(by omega), by rw [look0, if_pos (by omega)]; simp <;> omega, Nat.le_refl _⟩
        have hfix := hR.fix (ioL + j) _ (by omega) hkn0
        have hfix : LS.le (φ' (ioL + j)) (φ ρ[j]) (io[j]'(by omega)).ver := by rw [← φio_at φ hj]; exact hfix
        rw [fp2in j hj]
        rw [← g2] at hfix
        generalize io'[j] = b at hB hfix g3
        cases b with
        | gone v => exact g3.elim
        | row v sh dp xs =>
          rcases hB with ⟨q1, q2, q3⟩ | ⟨b, cap, q1, q2, q3, q4⟩
          · exact .inl ⟨hfix.2 q1, q2, q3⟩
          · refine .inr ⟨b, cap, hfix.1 _ _ q1, q2, q3, ?_⟩
            cases dp with
            | true => exact q4
            | false => exact q4.mono (fun _ _ => rfl) hST (fun _ _ => rfl)
        | lent v xs i u => exact g3.elim
        | box v xs =>
          obtain ⟨b, cs, e, sh, q1, q2, q3, q4, q5, q6⟩ := hB
          exact ⟨b, cs, e, sh, hfix.1 _ _ q1, q2, q3, q4, q5, fun i hi => .rd _ _ ((rd_of_rv (q6 i hi) (labs_nil_get g3 i hi)).mono (fun _ _ => rfl) hST)⟩
      · rw [(hm2 l).2 hm] at hb
        rw [fp2out l hm]
        refine (h.mSome l b hb).mono hSsame (fun b hb => .inl hb) hz (fun c hc => hsame c (h.fpB l c hc).1 fun j hj hc' => hm ?_) rfl fun _ _ _ _ _ _ => LS.le_refl _ _
        rw [h.dis _ _ c hc hc']; exact List.getElem_mem hj
    · by_cases hm : l ∈ ρ
      · obtain ⟨j, hj, rfl⟩ := List.getElem_of_mem hm
        rw [(hm2 ρ[j]).1 j hj rfl, List.getElem?_eq_getElem (by omega)] at hb
        have hb := Option.some.inj hb
        have g3 := (hok j (by omega) (by omega)).2.2
        rw [hb] at g3
        have g3 : labsL xs = [] := g3
        rw [g3] at hl; cases hl
      · rw [(hm2 l).2 hm] at hb
        exact hkn l' ver (h.bl l v xs hb l' ver hl)
    · by_cases hm : l ∈ ρ
      · obtain ⟨j, hj, rfl⟩ := List.getElem_of_mem hm
        rw [fp2in j hj]; exact hR.nod _
      · rw [fp2out l hm]; exact h.nod l
    · have mixed : ∀ j (hj : j < ρ.length) l, l ∉ ρ → b ∈ fp' (ioL + j) → b ∈ fp l → False := by
        intro j hj l hm b1 b2
        rcases (fpnew j hj b b1).2 with hh | hh
        · have := (h.fpB l b b2).1; omega
        · exact hm (by rw [h.dis _ _ b b2 hh]; exact List.getElem_mem hj)
      by_cases m1 : l ∈ ρ
      · obtain ⟨j, hj, rfl⟩ := List.getElem_of_mem m1
        rw [fp2in j hj] at h1
        by_cases m2 : l' ∈ ρ
        · obtain ⟨j', hj', rfl⟩ := List.getElem_of_mem m2
          rw [fp2in j' hj'] at h2
          have := hR.dis _ _ b h1 h2
          have : j = j' := by omega
          subst this; rfl
        · rw [fp2out l' m2] at h2
          exact (mixed j hj l' m2 h1 h2).elim
      · rw [fp2out l m1] at h1
        by_cases m2 : l' ∈ ρ
        · obtain ⟨j', hj', rfl⟩ := List.getElem_of_mem m2
          rw [fp2in j' hj'] at h2
          exact (mixed j' hj' l m1 h2 h1).elim
        · rw [fp2out l' m2] at h2
          exact h.dis l l' b h1 h2
    · by_cases hm : l ∈ ρ
      · obtain ⟨j, hj, rfl⟩ := List.getElem_of_mem hm
        rw [fp2in j hj] at hb
        rintro (hs | hs)
        · rcases (fpnew j hj b hb).2 with hh | hh
          · have := (h.sB b hs).1; omega
          · exact h.notS _ b hh hs
        · exact hR.notS _ b hb hs.1
      · rw [fp2out l hm] at hb
        rintro (hs | hs)
        · exact h.notS l b hb hs
        · have := (h.fpB l b hb).1; omega
    · by_cases hm : l ∈ ρ
      · obtain ⟨j, hj, rfl⟩ := List.getElem_of_mem hm
        rw [fp2in j hj] at hb
        have := fpnew j hj b hb
        refine ⟨this.1, ?_⟩
        rcases this.2 with hh | hh
        · exact .inl (Nat.le_trans h.size hh)
        · exact (h.fpB _ b hh).2
      · rw [fp2out l hm] at hb
        have := h.fpB l b hb
        exact ⟨Nat.lt_of_lt_of_le this.1 hR.size, this.2⟩
    · rcases hb with hs | hs
      · have := h.sB b hs
        exact ⟨Nat.lt_of_lt_of_le this.1 hR.size, this.2⟩
      · exact ⟨(hR.sB b hs.1).1, .inl (Nat.le_trans h.size hs.2)⟩
    · refine (hsame b (Nat.lt_of_lt_of_le hb h.size) fun j hj hb' => ?_).trans (h.base b hb hio)
      rcases (h.fpB _ b hb').2 with hh | hh
      · omega
      · exact hio _ hh.choose_spec.1
  exact ⟨v, r, io', fp2, T, rfl, hpost, hRS, hrd.mono (fun _ _ => rfl) hST⟩

end
def sCallMR (P : Program) (f : FuncId) (ρ : List Nat) (io : List Blk) (args : List AV) (m : Mem) (k : AV → Mem → Prop) (_ : Pack k) : Prop :=
  ∃ post, FnMR P f io args post ∧ ∀ r io', post r io' → k r (putIo ρ io' m)
@[congr] theorem sCallMR_congr {P : Program} {f : FuncId} {ρ : List Nat} {io io' : List Blk} {args args' : List AV} {m : Mem} {k : AV → Mem → Prop} {q : Pack k} (h : io = io') (h' : args = args') : sCallMR P f ρ io args m k q = sCallMR P f ρ io' args' m k q := by rw [h, h']
theorem sCallMR_any {P : Program} {f : FuncId} {ρ : List Nat} {io : List Blk} {args : List AV} {post : AV → List Blk → Prop} {m : Mem} {k : AV → Mem → Prop} (h : FnMR P f io args post) (hk : ∀ r io', post r io' → k r (putIo ρ io' m)) {q : Pack k} : sCallMR P f ρ io args m k q :=
  ⟨_, h, hk⟩
/-- A call with blocks of ours whose result is readable. -/
theorem sCallT_ioR {P : Program} {f : FuncId} {d : Nat} {xs ts : List AV} {m : Mem} {k : AV → Mem → Prop} (ρ : List Nat) (h : sSel m (fun io => sRens ρ (fun args => sCallMR P f ρ io args m k ⟨⟩) [] xs) [] ρ) {q : Pack k} : sCallT P f d xs ts m k q := by
  refine .inl fun B N φ fp S ts a w vs hRS hsz hx hxl => ?_
  obtain ⟨hnd, io, h1, h2, h3⟩ := sSel_out ρ [] h
  rw [List.reverse_nil, List.nil_append] at h1
  obtain ⟨args, g1, g2, g3⟩ := rens_out (w := w) (S := S) (φ := φ) h2 h3 xs vs.toList [] (by simpa using hsz) hx hxl h1
  rw [List.reverse_nil, List.nil_append] at g1
  obtain ⟨post, hf, hk⟩ := g1
  refine ⟨hf.1, (callMR_core hnd h2 h3 hRS (hsz.trans g2.symm) g3 hf (xs := xs)).mono ?_⟩
  rintro e w' ⟨v, r, io', fp2, T, rfl, hpost, hR, hrd⟩
  exact ⟨v, rfl, φ, fp2, T, ts, _, r, hR, .rd _ _ hrd, fun l ver hl => (by rw [labs_rd hrd] at hl; cases hl), rfl, hk r io' hpost⟩
attribute [go_sem] finMR_normal finMR_ret
end Go.Vc

/-
  Draws of makers and keys.
-/
set_option linter.unusedVariables false
set_option linter.unusedSimpArgs false
set_option linter.unnecessarySimpa false
namespace Go.Vc
open Go.Proofs
set_option maxRecDepth 100000
set_option maxHeartbeats 4000000
def mkV (bs : List UInt8) (s : Src) : MkM × Src :=
  let a := nx bs 3 s
  let b := nx bs 3 a.2
  let c := nx bs (2 + b.1 - 1) b.2
  let d := nx bs (2 + a.1) c.2
  let e := nx bs 2 d.2
  (⟨2 + a.1, 2 + b.1, 1 + c.1, 1 + d.1, 1 + e.1⟩, e.2)
theorem mkV_ok (bs : List UInt8) {s : Src} (h : SrcOk s) : SrcOk (mkV bs s).2 ∧ isMk (mkV bs s).1 = true ∧ (mkV bs s).1.chambers ≤ 4 ∧ (mkV bs s).1.depths ≤ 4 := by
  have h1 := nx_ok bs 3 h
  have h2 := nx_ok bs 3 h1.2.2.2
  have h3 := nx_ok bs (2 + (nx bs 3 (nx bs 3 s).2).1 - 1) h2.2.2.2
  have h4 := nx_ok bs (2 + (nx bs 3 s).1) h3.2.2.2
  have h5 := nx_ok bs 2 h4.2.2.2
  dsimp only [mkV]
  generalize nx bs 3 s = a at *
  generalize nx bs 3 a.2 = b at *
  generalize nx bs (2 + b.1 - 1) b.2 = c at *
  generalize nx bs (2 + a.1) c.2 = d at *
  generalize nx bs 2 d.2 = e at *
  refine ⟨h5.2.2.2, ?_, by have := h1.2.2.1 (by omega); omega, by have := h2.2.2.1 (by omega); omega⟩
  have a1 := h1.2.2.1 (by omega)
  have b1 := h2.2.2.1 (by omega)
  have d1 := h4.2.2.1 (by omega)
  have e1 := h5.2.2.1 (by omega)
  have c1 : c.1 ≤ b.1 := by
    by_cases hb : b.1 = 0
    · have := h3.2.1 (by omega); omega
    · have := h3.2.2.1 (by omega); omega
  simp only [isMk, isIn, Bool.and_eq_true, decide_eq_true_eq]
  split <;> omega
theorem c_l02Valid (v : Nat) (bs : List UInt8) (s : Src) (h : SrcOk s) (hl : bs.length ≤ 4096) :
    FnM Try.prog 145 [srcB v bs s] [.ptr 1000000000 v 0 0] (fun x io => x = eMk (mkV bs s).1 ∧ io = [srcB v bs (mkV bs s).2]) := by
  refine FnM.of_vcN 34 [.cell 2 43] Try.func145 rfl rfl rfl rfl rfl (of_decide_eq_true rfl) ?_
  have h1 := nx_ok bs 3 h
  have h2 := nx_ok bs 3 h1.2.2.2
  have h3 := nx_ok bs (2 + (nx bs 3 (nx bs 3 s).2).1 - 1) h2.2.2.2
  have h4 := nx_ok bs (2 + (nx bs 3 s).1) h3.2.2.2
  have h5 := nx_ok bs 2 h4.2.2.2
  have q1 := fun v => c_l01Next v bs 3 s h hl
  have q2 := fun v => c_l01Next v bs 3 _ h1.2.2.2 hl
  have q3 := fun v => c_l01Next v bs (2 + (nx bs 3 (nx bs 3 s).2).1 - 1) _ h2.2.2.2 hl
  have q4 := fun v => c_l01Next v bs (2 + (nx bs 3 s).1) _ h3.2.2.2 hl
  have q5 := fun v => c_l01Next v bs 2 _ h4.2.2.2 hl
  dsimp only [mkV]
  generalize nx bs 3 s = a at *
  generalize nx bs 3 a.2 = b at *
  generalize nx bs (2 + b.1 - 1) b.2 = c at *
  generalize nx bs (2 + a.1) c.2 = d at *
  generalize nx bs 2 d.2 = e at *
  have a1 := h1.2.2.1 (by omega)
  have b1 := h2.2.2.1 (by omega)
  have d1 := h4.2.2.1 (by omega)
  have e1 := h5.2.2.1 (by omega)
  have a0 := h1.1
  have b0 := h2.1
  have c0 := h3.1
  have d0 := h4.1
  have e0 := h5.1
  have c1 : c.1 ≤ b.1 := by
    by_cases hb : b.1 = 0
    · have := h3.2.1 (by omega); omega
    · have := h3.2.2.1 (by omega); omega
  have m1 : (if 2 + a.1 < 2 then 2 + a.1 else 2) = (2 : Int) := if_neg (by omega)
  have m2 : (if 2 + b.1 < 2 then 2 + b.1 else 2) = (2 : Int) := if_neg (by omega)
  clear h1 h2 h3 h4 h5
  simp -dsimp -implicitDefEqProofs only [go_sem, ↓reduceIte, Nat.reduceEqDiff, Nat.reduceLT, Nat.reduceAdd, Nat.reduceMul, Nat.reduceLeDiff, Nat.le_refl, Int.natCast_zero, Int.toNat_natCast, Int.reduceToNat]
  (refine sCallT_io [1000000000] ?_; simp -dsimp -implicitDefEqProofs only [go_sem, ↓reduceIte, Nat.reduceEqDiff, Nat.reduceLT, Nat.reduceAdd, Nat.reduceMul, Nat.reduceLeDiff, Nat.le_refl, Int.natCast_zero, Int.toNat_natCast, Int.reduceToNat]; refine sCallM_one (q1 _) ?_; simp -dsimp -implicitDefEqProofs only [go_sem, ↓reduceIte, Nat.reduceEqDiff, Nat.reduceLT, Nat.reduceAdd, Nat.reduceMul, Nat.reduceLeDiff, Nat.le_refl, Int.natCast_zero, Int.toNat_natCast, Int.reduceToNat])
  ((repeat' (with_reducible refine And.intro ?_ ?_)); all_goals try (first | omega | (refine ⟨?_, ?_⟩ <;> omega) | (exact rfl)))
  (refine sCallT_io [1000000000] ?_; simp -dsimp -implicitDefEqProofs only [go_sem, ↓reduceIte, Nat.reduceEqDiff, Nat.reduceLT, Nat.reduceAdd, Nat.reduceMul, Nat.reduceLeDiff, Nat.le_refl, Int.natCast_zero, Int.toNat_natCast, Int.reduceToNat]; refine sCallM_one (q2 _) ?_; simp -dsimp -implicitDefEqProofs only [go_sem, ↓reduceIte, Nat.reduceEqDiff, Nat.reduceLT, Nat.reduceAdd, Nat.reduceMul, Nat.reduceLeDiff, Nat.le_refl, Int.natCast_zero, Int.toNat_natCast, Int.reduceToNat])
  ((repeat' (with_reducible refine And.intro ?_ ?_)); all_goals try (first | omega | (refine ⟨?_, ?_⟩ <;> omega) | (exact rfl)))
  (refine sCallT_io [1000000000] ?_; simp -dsimp -implicitDefEqProofs only [go_sem, ↓reduceIte, Nat.reduceEqDiff, Nat.reduceLT, Nat.reduceAdd, Nat.reduceMul, Nat.reduceLeDiff, Nat.le_refl, Int.natCast_zero, Int.toNat_natCast, Int.reduceToNat]; refine sCallM_one (q3 _) ?_; simp -dsimp -implicitDefEqProofs only [go_sem, ↓reduceIte, Nat.reduceEqDiff, Nat.reduceLT, Nat.reduceAdd, Nat.reduceMul, Nat.reduceLeDiff, Nat.le_refl, Int.natCast_zero, Int.toNat_natCast, Int.reduceToNat])
  ((repeat' (with_reducible refine And.intro ?_ ?_)); all_goals try (first | omega | (refine ⟨?_, ?_⟩ <;> omega) | (exact rfl)))
  (refine sCallT_io [1000000000] ?_; simp -dsimp -implicitDefEqProofs only [go_sem, ↓reduceIte, Nat.reduceEqDiff, Nat.reduceLT, Nat.reduceAdd, Nat.reduceMul, Nat.reduceLeDiff, Nat.le_refl, Int.natCast_zero, Int.toNat_natCast, Int.reduceToNat]; refine sCallM_one (q4 _) ?_; simp -dsimp -implicitDefEqProofs only [go_sem, ↓reduceIte, Nat.reduceEqDiff, Nat.reduceLT, Nat.reduceAdd, Nat.reduceMul, Nat.reduceLeDiff, Nat.le_refl, Int.natCast_zero, Int.toNat_natCast, Int.reduceToNat])
  ((repeat' (with_reducible refine And.intro ?_ ?_)); all_goals try (first | omega | (refine ⟨?_, ?_⟩ <;> omega) | (exact rfl)))
  simp only [m1, m2]
  (refine sCallT_io [1000000000] ?_; simp -dsimp -implicitDefEqProofs only [go_sem, ↓reduceIte, Nat.reduceEqDiff, Nat.reduceLT, Nat.reduceAdd, Nat.reduceMul, Nat.reduceLeDiff, Nat.le_refl, Int.natCast_zero, Int.toNat_natCast, Int.reduceToNat]; refine sCallM_one (q5 _) ?_; simp -dsimp -implicitDefEqProofs only [go_sem, ↓reduceIte, Nat.reduceEqDiff, Nat.reduceLT, Nat.reduceAdd, Nat.reduceMul, Nat.reduceLeDiff, Nat.le_refl, Int.natCast_zero, Int.toNat_natCast, Int.reduceToNat])
  ((repeat' (with_reducible refine And.intro ?_ ?_)); all_goals try (first | omega | (refine ⟨?_, ?_⟩ <;> omega) | (exact rfl)))
  all_goals trace_state
def mkD (bs : List UInt8) (s : Src) : MkM × Src :=
  let v := mkV bs s
  let m := v.1
  let n := nx bs 30 v.2
  if n.1 = 0 then (⟨(pk bs [1, 6, 7] n.2).1, m.depths, m.step, m.same, m.least⟩, (pk bs [1, 6, 7] n.2).2)
  else if n.1 = 1 then (⟨m.chambers, (pk bs [1, 8, 9] n.2).1, m.step, m.same, m.least⟩, (pk bs [1, 8, 9] n.2).2)
  else if n.1 = 2 then (⟨m.chambers, m.depths, (pk bs [0, m.depths - 1, m.depths] n.2).1, m.same, m.least⟩, (pk bs [0, m.depths - 1, m.depths] n.2).2)
  else if n.1 = 3 then (⟨m.chambers, m.depths, m.step, (pk bs [0, m.chambers, m.chambers + 1] n.2).1, m.least⟩, (pk bs [0, m.chambers, m.chambers + 1] n.2).2)
  else if n.1 = 4 then (⟨m.chambers, m.depths, m.step, m.same, (pk bs [0, (if m.depths < m.chambers then m.depths else m.chambers), (if m.depths < m.chambers then m.depths else m.chambers) + 1] n.2).1⟩, (pk bs [0, (if m.depths < m.chambers then m.depths else m.chambers), (if m.depths < m.chambers then m.depths else m.chambers) + 1] n.2).2)
  else if n.1 = 5 then (⟨6, 4 + (nx bs 2 n.2).1, 2 + (nx bs 2 (nx bs 2 n.2).2).1, 2, 3⟩, (nx bs 2 (nx bs 2 n.2).2).2)
  else (m, n.2)
theorem mkD_ok (bs : List UInt8) {s : Src} (h : SrcOk s) : SrcOk (mkD bs s).2 := by
  have hv := (mkV_ok bs h).1
  have hn := (nx_ok bs 30 hv).2.2.2
  dsimp only [mkD]
  generalize mkV bs s = v at *
  generalize nx bs 30 v.2 = n at *
  have h2 := (nx_ok bs 2 hn).2.2.2
  have h3 := (nx_ok bs 2 h2).2.2.2
  split
  · exact pk_ok bs _ hn
  split
  · exact pk_ok bs _ hn
  split
  · exact pk_ok bs _ hn
  split
  · exact pk_ok bs _ hn
  split
  · exact pk_ok bs _ hn
  split
  · exact h3
  · exact hn
theorem c_l02Draw (v : Nat) (bs : List UInt8) (s : Src) (h : SrcOk s) (hl : bs.length ≤ 4096) :
    FnM Try.prog 123 [srcB v bs s] [.ptr 1000000000 v 0 0] (fun x io => x = eMk (mkD bs s).1 ∧ io = [srcB v bs (mkD bs s).2]) := by
  refine FnM.of_vcN 69 [.cell 2 43] Try.func123 rfl rfl rfl rfl rfl (of_decide_eq_true rfl) ?_
  obtain ⟨hv, hm, hc4, hd4⟩ := mkV_ok bs h
  have hnum := isMk_num hm
  have hn := nx_ok bs 30 hv
  have q1 := fun v => c_l02Valid v bs s h hl
  have q2 := fun v => c_l01Next v bs 30 _ hv hl
  dsimp only [mkD]
  generalize mkV bs s = p at *
  obtain ⟨m, s1⟩ := p
  dsimp only at *
  generalize nx bs 30 s1 = n at *
  obtain ⟨n0, n1, n2, n3⟩ := hn
  have n2 := n2 (by omega)
  simp -dsimp -implicitDefEqProofs only [go_sem, ↓reduceIte, Nat.reduceEqDiff, Nat.reduceLT, Nat.reduceAdd, Nat.reduceMul, Nat.reduceLeDiff, Nat.le_refl, Int.natCast_zero, Int.toNat_natCast, Int.reduceToNat]
  (refine sCallT_io [1000000000] ?_; simp -dsimp -implicitDefEqProofs only [go_sem, ↓reduceIte, Nat.reduceEqDiff, Nat.reduceLT, Nat.reduceAdd, Nat.reduceMul, Nat.reduceLeDiff, Nat.le_refl, Int.natCast_zero, Int.toNat_natCast, Int.reduceToNat]; refine sCallM_one (q1 _) ?_; simp -dsimp -implicitDefEqProofs only [go_sem, ↓reduceIte, Nat.reduceEqDiff, Nat.reduceLT, Nat.reduceAdd, Nat.reduceMul, Nat.reduceLeDiff, Nat.le_refl, Int.natCast_zero, Int.toNat_natCast, Int.reduceToNat])
  (refine sCallT_io [1000000000] ?_; simp -dsimp -implicitDefEqProofs only [go_sem, ↓reduceIte, Nat.reduceEqDiff, Nat.reduceLT, Nat.reduceAdd, Nat.reduceMul, Nat.reduceLeDiff, Nat.le_refl, Int.natCast_zero, Int.toNat_natCast, Int.reduceToNat]; refine sCallM_one (q2 _) ?_; simp -dsimp -implicitDefEqProofs only [go_sem, ↓reduceIte, Nat.reduceEqDiff, Nat.reduceLT, Nat.reduceAdd, Nat.reduceMul, Nat.reduceLeDiff, Nat.le_refl, Int.natCast_zero, Int.toNat_natCast, Int.reduceToNat])
  rcases b0 : (n.1 == 0) with _ | _
  rotate_left
  · have e0 : n.1 = 0 := beq_iff_eq.1 b0
    rw [if_pos e0]
    have qp := fun v v2 => c_l01Pick v v2 true bs [1, 6, 7] _ n.2 rfl (by simp) (by simp) n3 hl
    generalize pk bs [1, 6, 7] n.2 = pp at *
    clear e0
    simp -dsimp -implicitDefEqProofs only [go_sem, ↓reduceIte, Nat.reduceEqDiff, Nat.reduceLT, Nat.reduceAdd, Nat.reduceMul, Nat.reduceLeDiff, Nat.le_refl, Int.natCast_zero, Int.toNat_natCast, Int.reduceToNat, b0]
    ((repeat' (with_reducible refine And.intro ?_ ?_)); all_goals try (first | omega | (refine ⟨?_, ?_⟩ <;> omega) | (exact rfl)))
    (refine sCallT_io [1000000000, 11] ?_; simp -dsimp -implicitDefEqProofs only [go_sem, ↓reduceIte, Nat.reduceEqDiff, Nat.reduceLT, Nat.reduceAdd, Nat.reduceMul, Nat.reduceLeDiff, Nat.le_refl, Int.natCast_zero, Int.toNat_natCast, Int.reduceToNat]; refine sCallM_one (qp _ _) ?_; simp -dsimp -implicitDefEqProofs only [go_sem, ↓reduceIte, Nat.reduceEqDiff, Nat.reduceLT, Nat.reduceAdd, Nat.reduceMul, Nat.reduceLeDiff, Nat.le_refl, Int.natCast_zero, Int.toNat_natCast, Int.reduceToNat])
    ((repeat' (with_reducible refine And.intro ?_ ?_)); all_goals try (first | omega | (refine ⟨?_, ?_⟩ <;> omega) | (exact rfl)))
    all_goals trace_state
  rw [if_neg (beq_eq_false_iff_ne.1 b0)]
  rcases b1 : (n.1 == 1) with _ | _
  rotate_left
  · have e1 : n.1 = 1 := beq_iff_eq.1 b1
    rw [if_pos e1]
    have qp := fun v v2 => c_l01Pick v v2 true bs [1, 8, 9] _ n.2 rfl (by simp) (by simp) n3 hl
    generalize pk bs [1, 8, 9] n.2 = pp at *
    clear e1
    simp -dsimp -implicitDefEqProofs only [go_sem, ↓reduceIte, Nat.reduceEqDiff, Nat.reduceLT, Nat.reduceAdd, Nat.reduceMul, Nat.reduceLeDiff, Nat.le_refl, Int.natCast_zero, Int.toNat_natCast, Int.reduceToNat, b0, b1]
    ((repeat' (with_reducible refine And.intro ?_ ?_)); all_goals try (first | omega | (refine ⟨?_, ?_⟩ <;> omega) | (exact rfl)))
    (refine sCallT_io [1000000000, 17] ?_; simp -dsimp -implicitDefEqProofs only [go_sem, ↓reduceIte, Nat.reduceEqDiff, Nat.reduceLT, Nat.reduceAdd, Nat.reduceMul, Nat.reduceLeDiff, Nat.le_refl, Int.natCast_zero, Int.toNat_natCast, Int.reduceToNat]; refine sCallM_one (qp _ _) ?_; simp -dsimp -implicitDefEqProofs only [go_sem, ↓reduceIte, Nat.reduceEqDiff, Nat.reduceLT, Nat.reduceAdd, Nat.reduceMul, Nat.reduceLeDiff, Nat.le_refl, Int.natCast_zero, Int.toNat_natCast, Int.reduceToNat])
    ((repeat' (with_reducible refine And.intro ?_ ?_)); all_goals try (first | omega | (refine ⟨?_, ?_⟩ <;> omega) | (exact rfl)))
    all_goals trace_state
  rw [if_neg (beq_eq_false_iff_ne.1 b1)]
  rcases b2 : (n.1 == 2) with _ | _
  rotate_left
  · have e2 : n.1 = 2 := beq_iff_eq.1 b2
    rw [if_pos e2]
    have qp := fun v v2 => c_l01Pick v v2 true bs [0, m.depths - 1, m.depths] _ n.2 rfl (by simp) (by simp) n3 hl
    generalize pk bs [0, m.depths - 1, m.depths] n.2 = pp at *
    clear e2
    simp -dsimp -implicitDefEqProofs only [go_sem, ↓reduceIte, Nat.reduceEqDiff, Nat.reduceLT, Nat.reduceAdd, Nat.reduceMul, Nat.reduceLeDiff, Nat.le_refl, Int.natCast_zero, Int.toNat_natCast, Int.reduceToNat, b0, b1, b2]
    ((repeat' (with_reducible refine And.intro ?_ ?_)); all_goals try (first | omega | (refine ⟨?_, ?_⟩ <;> omega) | (exact rfl)))
    (refine sCallT_io [1000000000, 28] ?_; simp -dsimp -implicitDefEqProofs only [go_sem, ↓reduceIte, Nat.reduceEqDiff, Nat.reduceLT, Nat.reduceAdd, Nat.reduceMul, Nat.reduceLeDiff, Nat.le_refl, Int.natCast_zero, Int.toNat_natCast, Int.reduceToNat]; refine sCallM_one (qp _ _) ?_; simp -dsimp -implicitDefEqProofs only [go_sem, ↓reduceIte, Nat.reduceEqDiff, Nat.reduceLT, Nat.reduceAdd, Nat.reduceMul, Nat.reduceLeDiff, Nat.le_refl, Int.natCast_zero, Int.toNat_natCast, Int.reduceToNat])
    ((repeat' (with_reducible refine And.intro ?_ ?_)); all_goals try (first | omega | (refine ⟨?_, ?_⟩ <;> omega) | (exact rfl)))
    all_goals trace_state
  rw [if_neg (beq_eq_false_iff_ne.1 b2)]
  rcases b3 : (n.1 == 3) with _ | _
  rotate_left
  · have e3 : n.1 = 3 := beq_iff_eq.1 b3
    rw [if_pos e3]
    have qp := fun v v2 => c_l01Pick v v2 true bs [0, m.chambers, m.chambers + 1] _ n.2 rfl (by simp) (by simp) n3 hl
    generalize pk bs [0, m.chambers, m.chambers + 1] n.2 = pp at *
    clear e3
    simp -dsimp -implicitDefEqProofs only [go_sem, ↓reduceIte, Nat.reduceEqDiff, Nat.reduceLT, Nat.reduceAdd, Nat.reduceMul, Nat.reduceLeDiff, Nat.le_refl, Int.natCast_zero, Int.toNat_natCast, Int.reduceToNat, b0, b1, b2, b3]
    ((repeat' (with_reducible refine And.intro ?_ ?_)); all_goals try (first | omega | (refine ⟨?_, ?_⟩ <;> omega) | (exact rfl)))
    (refine sCallT_io [1000000000, 39] ?_; simp -dsimp -implicitDefEqProofs only [go_sem, ↓reduceIte, Nat.reduceEqDiff, Nat.reduceLT, Nat.reduceAdd, Nat.reduceMul, Nat.reduceLeDiff, Nat.le_refl, Int.natCast_zero, Int.toNat_natCast, Int.reduceToNat]; refine sCallM_one (qp _ _) ?_; simp -dsimp -implicitDefEqProofs only [go_sem, ↓reduceIte, Nat.reduceEqDiff, Nat.reduceLT, Nat.reduceAdd, Nat.reduceMul, Nat.reduceLeDiff, Nat.le_refl, Int.natCast_zero, Int.toNat_natCast, Int.reduceToNat])
    ((repeat' (with_reducible refine And.intro ?_ ?_)); all_goals try (first | omega | (refine ⟨?_, ?_⟩ <;> omega) | (exact rfl)))
    all_goals trace_state
  rw [if_neg (beq_eq_false_iff_ne.1 b3)]
  rcases b4 : (n.1 == 4) with _ | _
  rotate_left
  · have e4 : n.1 = 4 := beq_iff_eq.1 b4
    rw [if_pos e4]
    have qp := fun v v2 => c_l01Pick v v2 true bs [0, (if m.depths < m.chambers then m.depths else m.chambers), (if m.depths < m.chambers then m.depths else m.chambers) + 1] _ n.2 rfl (by simp) (by simp) n3 hl
    generalize pk bs [0, (if m.depths < m.chambers then m.depths else m.chambers), (if m.depths < m.chambers then m.depths else m.chambers) + 1] n.2 = pp at *
    clear e4
    simp -dsimp -implicitDefEqProofs only [go_sem, ↓reduceIte, Nat.reduceEqDiff, Nat.reduceLT, Nat.reduceAdd, Nat.reduceMul, Nat.reduceLeDiff, Nat.le_refl, Int.natCast_zero, Int.toNat_natCast, Int.reduceToNat, b0, b1, b2, b3, b4]
    ((repeat' (with_reducible refine And.intro ?_ ?_)); all_goals try (first | omega | (refine ⟨?_, ?_⟩ <;> omega) | (exact rfl)))
    (refine sCallT_io [1000000000, 56] ?_; simp -dsimp -implicitDefEqProofs only [go_sem, ↓reduceIte, Nat.reduceEqDiff, Nat.reduceLT, Nat.reduceAdd, Nat.reduceMul, Nat.reduceLeDiff, Nat.le_refl, Int.natCast_zero, Int.toNat_natCast, Int.reduceToNat]; refine sCallM_one (qp _ _) ?_; simp -dsimp -implicitDefEqProofs only [go_sem, ↓reduceIte, Nat.reduceEqDiff, Nat.reduceLT, Nat.reduceAdd, Nat.reduceMul, Nat.reduceLeDiff, Nat.le_refl, Int.natCast_zero, Int.toNat_natCast, Int.reduceToNat])
    ((repeat' (with_reducible refine And.intro ?_ ?_)); all_goals try (first | omega | (refine ⟨?_, ?_⟩ <;> omega) | (exact rfl)))
    all_goals trace_state
  rw [if_neg (beq_eq_false_iff_ne.1 b4)]
  rcases b5 : (n.1 == 5) with _ | _
  rotate_left
  · have e5 : n.1 = 5 := beq_iff_eq.1 b5
    rw [if_pos e5]
    have x1 := nx_ok bs 2 n3
    have x2 := nx_ok bs 2 x1.2.2.2
    have qa := fun v => c_l01Next v bs 2 _ n3 hl
    have qb := fun v => c_l01Next v bs 2 _ x1.2.2.2 hl
    generalize nx bs 2 n.2 = A at *
    generalize nx bs 2 A.2 = Bq at *
    have x3 := x1.2.2.1 (by omega)
    have x4 := x2.2.2.1 (by omega)
    have x5 := x1.1
    have x6 := x2.1
    clear e5 x1 x2
    simp -dsimp -implicitDefEqProofs only [go_sem, ↓reduceIte, Nat.reduceEqDiff, Nat.reduceLT, Nat.reduceAdd, Nat.reduceMul, Nat.reduceLeDiff, Nat.le_refl, Int.natCast_zero, Int.toNat_natCast, Int.reduceToNat, b0, b1, b2, b3, b4, b5]
    (refine sCallT_io [1000000000] ?_; simp -dsimp -implicitDefEqProofs only [go_sem, ↓reduceIte, Nat.reduceEqDiff, Nat.reduceLT, Nat.reduceAdd, Nat.reduceMul, Nat.reduceLeDiff, Nat.le_refl, Int.natCast_zero, Int.toNat_natCast, Int.reduceToNat]; refine sCallM_one (qa _) ?_; simp -dsimp -implicitDefEqProofs only [go_sem, ↓reduceIte, Nat.reduceEqDiff, Nat.reduceLT, Nat.reduceAdd, Nat.reduceMul, Nat.reduceLeDiff, Nat.le_refl, Int.natCast_zero, Int.toNat_natCast, Int.reduceToNat])
    ((repeat' (with_reducible refine And.intro ?_ ?_)); all_goals try (first | omega | (refine ⟨?_, ?_⟩ <;> omega) | (exact rfl)))
    (refine sCallT_io [1000000000] ?_; simp -dsimp -implicitDefEqProofs only [go_sem, ↓reduceIte, Nat.reduceEqDiff, Nat.reduceLT, Nat.reduceAdd, Nat.reduceMul, Nat.reduceLeDiff, Nat.le_refl, Int.natCast_zero, Int.toNat_natCast, Int.reduceToNat]; refine sCallM_one (qb _) ?_; simp -dsimp -implicitDefEqProofs only [go_sem, ↓reduceIte, Nat.reduceEqDiff, Nat.reduceLT, Nat.reduceAdd, Nat.reduceMul, Nat.reduceLeDiff, Nat.le_refl, Int.natCast_zero, Int.toNat_natCast, Int.reduceToNat])
    ((repeat' (with_reducible refine And.intro ?_ ?_)); all_goals try (first | omega | (refine ⟨?_, ?_⟩ <;> omega) | (exact rfl)))
    all_goals trace_state
  rw [if_neg (beq_eq_false_iff_ne.1 b5)]
  simp -dsimp -implicitDefEqProofs only [go_sem, ↓reduceIte, Nat.reduceEqDiff, Nat.reduceLT, Nat.reduceAdd, Nat.reduceMul, Nat.reduceLeDiff, Nat.le_refl, Int.natCast_zero, Int.toNat_natCast, Int.reduceToNat, b0, b1, b2, b3, b4, b5]
  ((repeat' (with_reducible refine And.intro ?_ ?_)); all_goals try (first | omega | (refine ⟨?_, ?_⟩ <;> omega) | (exact rfl)))
  all_goals trace_state
end Go.Vc

/-
  Draws of keys.
-/
set_option linter.unusedVariables false
set_option linter.unusedSimpArgs false
set_option linter.unnecessarySimpa false
namespace Go.Vc
open Go.Proofs
set_option maxRecDepth 100000
set_option maxHeartbeats 4000000
def cutsTo (bs : List UInt8) (D : Int) (s : Src) : Nat → List Int × Src
  | 0 => ([], s)
  | i + 1 => ((cutsTo bs D s i).1 ++ [(nx bs D (cutsTo bs D s i).2).1], (nx bs D (cutsTo bs D s i).2).2)
theorem cutsTo_ok {bs : List UInt8} {D : Int} {s : Src} (h : SrcOk s) (hD : 2 ≤ D) : ∀ i, SrcOk (cutsTo bs D s i).2 ∧ (cutsTo bs D s i).1.length = i ∧ ∀ x ∈ (cutsTo bs D s i).1, 0 ≤ x ∧ x < D
  | 0 => ⟨h, rfl, fun x hx => by cases hx⟩
  | i + 1 => by
    obtain ⟨h1, h2, h3⟩ := cutsTo_ok h hD i (bs := bs)
    have hn := nx_ok bs D h1
    refine ⟨hn.2.2.2, by simp [cutsTo, h2], fun x hx => ?_⟩
    simp only [cutsTo] at hx
    rcases List.mem_append.1 hx with h | h
    · exact h3 x h
    · simp at h; rw [h]; exact ⟨hn.1, hn.2.2.1 (by omega)⟩
def someK (m : MkM) (c : List Int) : List Int := match nextTo m c c.length with
  | some k => k
  | none => (firstK m m.chambers.toNat []).getD []
theorem someK_ok {m : MkM} {c : List Int} (hm : isMk m = true) (hl : (c.length : Int) = m.chambers) (hc : ∀ x ∈ c, 0 ≤ x ∧ x < m.depths) :
    ((someK m c).length : Int) = m.chambers ∧ okTo m (someK m c) = true ∧ m.least ≤ (kindsTo (someK m c) (someK m c).length : Int) ∧ ∀ x ∈ someK m c, 0 ≤ x ∧ x < m.depths := by
  have hnum := isMk_num hm
  unfold someK
  cases h : nextTo m c c.length with
  | some k =>
    obtain ⟨g1, g2, g3, g4⟩ := nextTo_len hl hc c.length (Nat.le_refl _) h
    exact ⟨by simp only; omega, g2, g3, g4⟩
  | none =>
    obtain ⟨k, hk⟩ := firstK_some hm
    obtain ⟨g1, g2, g3, g4⟩ := firstK_len _ _ _ hk
    simp only [hk, Option.getD_some]
    exact ⟨by simp at g1; omega, g2, g3, g4 fun x hx => by cases hx⟩
theorem c_l02Some (v : Nat) (bs : List UInt8) (s : Src) (m : MkM) (h : SrcOk s) (hm : isMk m = true) (hl : bs.length ≤ 4096) :
    FnMR Try.prog 146 [srcB v bs s] [.ptr 1000000000 v 0 0, eMk m] (fun x io => x = eIs (someK m (cutsTo bs m.depths s m.chambers.toNat).1) ∧ io = [srcB v bs (cutsTo bs m.depths s m.chambers.toNat).2]) := by
  refine FnMR.of_vc 37 [.tmp 4] Try.func146 rfl rfl rfl rfl rfl (of_decide_eq_true rfl) ?_
  have ⟨⟨hch1, hch2⟩, hd1, hd2⟩ := isMk_num hm
  have hct := fun i => cutsTo_ok (bs := bs) (D := m.depths) h hd1 i
  simp -dsimp -implicitDefEqProofs only [go_sem, ↓reduceIte, Nat.reduceEqDiff, Nat.reduceLT, Nat.reduceAdd, Nat.reduceMul, Nat.reduceLeDiff, Nat.le_refl, Int.natCast_zero, Int.toNat_natCast, Int.reduceToNat]
  refine Later.up [0, 3] [20, 21, 22] [9, 1000000000] m.chambers.toNat (fun _ => True) (fun i => [(6, eI i), (5, .ref 9 0 0 (cutsTo bs m.depths s i).1.length)]) (fun i => [(9, .row 0 ⟨1, false⟩ true ((cutsTo bs m.depths s i).1.map eI)), (1000000000, srcB v bs (cutsTo bs m.depths s i).2)]) trivial ?_ rfl (fun i hi _ => ?_) (fun _ => ?_)
  · simp -dsimp -implicitDefEqProofs only [go_sem, ↓reduceIte, Nat.reduceEqDiff, Nat.reduceLT, Nat.reduceAdd, Nat.reduceMul, Nat.reduceLeDiff, Nat.le_refl, Int.natCast_zero, Int.toNat_natCast, Int.reduceToNat]
    try simp [cutsTo]
  · have hlt : decide ((i : Int) < m.chambers) = true := decide_eq_true (by omega)
    obtain ⟨h1, h2, h3⟩ := hct i
    have hn := nx_ok bs m.depths h1
    have q := fun v => c_l01Next v bs m.depths _ h1 hl
    have hsucc : cutsTo bs m.depths s (i + 1) = ((cutsTo bs m.depths s i).1 ++ [(nx bs m.depths (cutsTo bs m.depths s i).2).1], (nx bs m.depths (cutsTo bs m.depths s i).2).2) := rfl
    rw [hsucc]
    clear hsucc hct
    generalize nx bs m.depths (cutsTo bs m.depths s i).2 = a at *
    generalize cutsTo bs m.depths s i = p at *
    have htk : List.take p.1.length (List.map eI p.1) = List.map eI p.1 := List.take_of_length_le (by simp)
    simp -dsimp -implicitDefEqProofs only [pick_nil, pick_cons, look_nil, look_cons, dropB_nil, dropB_cons, inD_nil, inD_cons, inE_nil, inE_cons, or_t_l, or_f_l, Nat.reduceBEq, Nat.reduceDiv, Nat.reduceAdd, beq_self_eq_true, Bool.false_eq_true, Bool.or_false, ↓reduceIte, Nat.reduceEqDiff, List.cons_append, List.nil_append]
    simp -dsimp -implicitDefEqProofs only [go_sem, ↓reduceIte, Nat.reduceEqDiff, Nat.reduceLT, Nat.reduceAdd, Nat.reduceMul, Nat.reduceLeDiff, Nat.le_refl, Int.natCast_zero, Int.toNat_natCast, Int.reduceToNat, hlt]
    (refine sCallT_io [1000000000] ?_; simp -dsimp -implicitDefEqProofs only [go_sem, ↓reduceIte, Nat.reduceEqDiff, Nat.reduceLT, Nat.reduceAdd, Nat.reduceMul, Nat.reduceLeDiff, Nat.le_refl, Int.natCast_zero, Int.toNat_natCast, Int.reduceToNat]; refine sCallM_one (q _) ?_; simp -dsimp -implicitDefEqProofs only [go_sem, ↓reduceIte, Nat.reduceEqDiff, Nat.reduceLT, Nat.reduceAdd, Nat.reduceMul, Nat.reduceLeDiff, Nat.le_refl, Int.natCast_zero, Int.toNat_natCast, Int.reduceToNat])
    exact ⟨by omega, ⟨by omega, by omega⟩, by simp, by simp⟩
  · have hlt : decide (((m.chambers.toNat : Nat) : Int) < m.chambers) = false := decide_eq_false (by omega)
    obtain ⟨h1, h2, h3⟩ := hct m.chambers.toNat
    clear hct
    generalize cutsTo bs m.depths s m.chambers.toNat = p at *
    have hnx := c_l02Next m p.1 hm (by omega) h3
    simp -dsimp -implicitDefEqProofs only [pick_nil, pick_cons, look_nil, look_cons, dropB_nil, dropB_cons, inD_nil, inD_cons, inE_nil, inE_cons, or_t_l, or_f_l, Nat.reduceBEq, Nat.reduceDiv, Nat.reduceAdd, beq_self_eq_true, Bool.false_eq_true, Bool.or_false, ↓reduceIte, Nat.reduceEqDiff, List.cons_append, List.nil_append]
    simp -dsimp -implicitDefEqProofs only [go_sem, ↓reduceIte, Nat.reduceEqDiff, Nat.reduceLT, Nat.reduceAdd, Nat.reduceMul, Nat.reduceLeDiff, Nat.le_refl, Int.natCast_zero, Int.toNat_natCast, Int.reduceToNat, hlt]
    refine sCallT_frz 9 0 ⟨1, false⟩ true (List.map eI p.1) hnx (by decide) ?_ ?_ fun r hr => ?_
    · simp -dsimp -implicitDefEqProofs only [go_sem, ↓reduceIte, Nat.reduceEqDiff, Nat.reduceLT, Nat.reduceAdd, Nat.reduceMul, Nat.reduceLeDiff, Nat.le_refl, Int.natCast_zero, Int.toNat_natCast, Int.reduceToNat]
    · refine frzOk_no ?_ rfl ?_
      · simp -dsimp -implicitDefEqProofs only [go_sem, ↓reduceIte, Nat.reduceEqDiff, Nat.reduceLT, Nat.reduceAdd, Nat.reduceMul, Nat.reduceLeDiff, Nat.le_refl, Int.natCast_zero, Int.toNat_natCast, Int.reduceToNat]
      · have h := frzOk_ref (l := 9) (v := 0) (sh := ⟨1, false⟩) (ys := List.map eI p.1) (xs := []) (r := []) 0 p.1.length (by simp) trivial
        rw [List.drop_zero, List.take_of_length_le (by simp)] at h
        exact h
    · subst hr
      obtain ⟨k0, hk0⟩ := firstK_some hm
      unfold someK
      cases nextTo m p.1 p.1.length with
      | some k =>
        unfold optR
        simp -dsimp -implicitDefEqProofs only [go_sem, ↓reduceIte, Nat.reduceEqDiff, Nat.reduceLT, Nat.reduceAdd, Nat.reduceMul, Nat.reduceLeDiff, Nat.le_refl, Int.natCast_zero, Int.toNat_natCast, Int.reduceToNat]
      | none =>
        rw [hk0]
        unfold optR
        have hf := (c_l02First m hm m.chambers.toNat [] (by simp; omega) (fun x hx => by cases hx)).subs (args' := [eMk m, eNil]) (.cons (.refl _) (.cons (.nil _) .nil))
        unfold firstR at hf
        rw [hk0] at hf
        simp -dsimp -implicitDefEqProofs only [go_sem, ↓reduceIte, Nat.reduceEqDiff, Nat.reduceLT, Nat.reduceAdd, Nat.reduceMul, Nat.reduceLeDiff, Nat.le_refl, Int.natCast_zero, Int.toNat_natCast, Int.reduceToNat]
        refine sCallS_one (r := .tup [eIs k0, eB true]) hf ?_ ?_
        · simp [noLabs, labs, labsL, isClo]
        · simp -dsimp -implicitDefEqProofs only [go_sem, ↓reduceIte, Nat.reduceEqDiff, Nat.reduceLT, Nat.reduceAdd, Nat.reduceMul, Nat.reduceLeDiff, Nat.le_refl, Int.natCast_zero, Int.toNat_natCast, Int.reduceToNat]
          exact rfl
end Go.Vc

/-
  Rows given away at a loop's end, and rows that a box names; calls stepped through in place, one within the other.
-/
set_option linter.unusedVariables false
set_option linter.unusedSimpArgs false
set_option linter.unnecessarySimpa false
namespace Go.Vc

section
variable {P : Program} {N : Nat} {ts : Env} {m : Mem}

theorem Ok.frz {code : Code} {Q : Post} (t l v i n : Nat) (sh : Sh) (d : Bool) (ys : List AV) (hl : l < ioL) (hm : lookB m l = some (.row v sh d ys)) (ht : look ts t = .ref l v i n) (hn : i + n ≤ ys.length)
    (h : Ok P N code ((t, .arr sh ((ys.drop i).take n)) :: ts) ((l, .gone v) :: m) Q) : Ok P N code ts m Q :=
  (Later.frz (q := ⟨⟩) t l v i n sh d ys hl hm ht hn ⟨h⟩).ok

/-- A loop that counts from 0 to n; at its end a row is given away. -/
theorem Later.upZ {body : Code} (L D E : List Nat) (n : Nat) (I : Nat → Prop) (up : Nat → Env) (um : Nat → Mem) (t l v i0 n0 : Nat) (sh : Sh) (d : Bool) (ys : List AV) {Q : Post} {q : Pack (Code.loop body, Q)} (h0 : I 0)
    (hr : refS ts m (up 0 ++ pick L ts) (um 0 ++ dropB D E m)) (hok : codeOk N body = true)
    (step : ∀ i, i < n → I i → vc P N body (up i ++ pick L ts) (um i ++ dropB D E m) (thn Q fun ts' m' => I (i + 1) ∧ refS ts' m' (up (i + 1) ++ pick L ts) (um (i + 1) ++ dropB D E m)))
    (hl : l < ioL) (hz : I n → lookB (um n ++ dropB D E m) l = some (.row v sh d ys) ∧ look (up n ++ pick L ts) t = .ref l v i0 n0 ∧ i0 + n0 ≤ ys.length)
    (stop : I n → vc P N body ((t, .arr sh ((ys.drop i0).take n0)) :: (up n ++ pick L ts)) ((l, .gone v) :: (um n ++ dropB D E m)) (thn Q fun _ _ => False)) : Later P N (.loop body) ts m Q q := by
  refine ⟨Ok.loop (fun i => i ≤ n ∧ I i) (fun i => (up i ++ pick L ts, um i ++ dropB D E m)) (fun i => n - i) 0 ⟨Nat.zero_le _, h0⟩ hr fun i ⟨hi, hI⟩ => ?_⟩
  rcases Nat.lt_or_ge i n with h | h
  · refine (vc_sound body _ _ _ hok (step i h hI)).mono fun e ts' m' hq => ?_
    cases e with
    | normal => exact ⟨i + 1, ⟨h, hq.1⟩, by omega, hq.2⟩
    | _ => exact hq
  · have e : i = n := Nat.le_antisymm hi h
    subst e
    obtain ⟨z1, z2, z3⟩ := hz hI
    refine Ok.mono (Ok.frz t l v i0 n0 sh d ys hl z1 z2 z3 (vc_sound body _ _ _ hok (stop hI))) fun e ts' m' hq => ?_
    cases e with
    | normal => exact hq.elim
    | _ => exact hq

/-- Ahead of any piece of code a row of ours that a box names may be given away. -/
theorem Later.frzB {code : Code} {Q : Post} {q : Pack (code, Q)} (lb vb j l v i n : Nat) (sh : Sh) (d : Bool) (xs ys : List AV) (hl : l < ioL) (hb : lookB m lb = some (.box vb xs)) (hx : xs[j]? = some (.ref l v i n))
    (hm : lookB m l = some (.row v sh d ys)) (hn : i + n ≤ ys.length)
    (h : Later P N code ts ((lb, .box vb (xs.set j (.arr sh ((ys.drop i).take n)))) :: (l, .gone v) :: m) Q q) : Later P N code ts m Q q := by
  refine ⟨fun B φ fp S a w hRS => h.ok B _ _ _ a w (?_ : RS B N (offφ l φ) (offF l fp) (fun b => S b ∨ b ∈ fp l) _ _ a w)⟩
  have hf := hRS.frz hl hm (v := v) rfl
  have hne : lb ≠ l := by rintro rfl; rw [hb] at hm; cases hm
  obtain ⟨hj, hx'⟩ := List.getElem?_eq_some_iff.1 hx
  obtain ⟨b, cs, e, sh2, h1, h2, h3, h4, h5, h6⟩ := hRS.mSome lb _ hb
  have hrd := frz_rd hRS hl hm hn (hx' ▸ h6 j hj)
  have hb2 : lookB ((l, Blk.gone v) :: m) lb = some (.box vb xs) := by rw [lookB_cons, if_neg (Ne.symm hne)]; exact hb
  have hkn : ∀ k ver, known ((l, Blk.gone v) :: m) k ver → known ((lb, .box vb (xs.set j (.arr sh ((ys.drop i).take n)))) :: (l, .gone v) :: m) k ver := by
    rintro k ver ⟨b0, g1, g2⟩
    by_cases e : lb = k
    · subst e
      rw [hb2] at g1; injection g1 with g1; subst g1
      exact ⟨.box vb (xs.set j (.arr sh ((ys.drop i).take n))), by rw [lookB_cons, if_pos rfl], g2⟩
    · exact ⟨b0, by rw [lookB_cons, if_neg e]; exact g1, g2⟩
  refine { hf with tl := fun t k ver hk => hkn k ver (hf.tl t k ver hk), mNone := fun k hk => ?_, mSome := fun k b0 hk => ?_, bl := fun k v' zs hk k' ver hl' => ?_, kn := fun k ver hk hk2 => hkn k ver (hf.kn k ver hk hk2) }
  · rw [lookB_cons] at hk
    split at hk
    · cases hk
    · exact hf.mNone k hk
  · rw [lookB_cons] at hk
    split at hk
    · rename_i e0
      subst e0
      injection hk with hk
      subst hk
      obtain ⟨b', cs', e', sh', g1, g2, g3, g4, g5, g6⟩ := hf.mSome lb _ hb2
      refine ⟨b', cs', e', sh', g1, g2, g3, by simpa using g4, fun q hq => ?_, fun q hq => ?_⟩
      · rw [List.getElem_set]
        split
        · trivial
        · exact g5 q (by simpa using hq)
      · rw [List.getElem_set]
        split
        · rename_i e2
          subst e2
          refine .rd _ _ ?_
          have hbb : b' = b := by
            have : offφ l φ lb = φ lb := offφ_ne hne
            rw [this, h1] at g1; cases g1; rfl
          subst hbb
          rw [h3] at g3; injection g3 with g3; injection g3 with g3 _ _
          subst g3
          exact hrd
        · exact g6 q (by simpa using hq)
    · exact hf.mSome k b0 hk
  · rw [lookB_cons] at hk
    split at hk
    · rename_i e0
      injection hk with hk
      injection hk with _ hk
      subst hk
      obtain ⟨q, hq, hlq⟩ := of_mem_labsL hl'
      rw [List.getElem_set] at hlq
      split at hlq
      · cases hlq
      · have hq2 : q < xs.length := by simpa using hq
        exact hkn k' ver (hf.bl lb vb xs hb2 k' ver (mem_labsL hq2 hlq))
    · exact hkn k' ver (hf.bl k v' zs hk k' ver hl')
end

section
variable {P : Program} {B : Base} {N : Nat} {φ : Nat → LS} {fp : Nat → List Nat} {S : Nat → Prop} {ts : Env} {m : Mem} {a : Act} {w : World}
/-- A call, stepped through in place: our lower labels take names K higher meanwhile; the callee's take names J higher at its end. -/
theorem sCallT_inlK {f : FuncId} {d : Nat} {xs xt : List AV} {m : Mem} {k : AV → Mem → Prop} {q : Pack k} {fn : Func} {c : Code} (K J : Nat) (N : Nat) (rs : List ResultVar) (hf : P.funcs[f]? = some fn) (hN : fn.ntmps = N) (hr : fn.results.toList = rs)
    (hn : (fn.name == "runtime.NumGoroutine") = false) (hb : fn.body = some c) (hok : codeOk N c = true) (ha : xs.length ≤ N)
    (hv : (renOk (lowP K [] m) m ∧ allHi (rnsM (lowP K [] m) m)) ∧ vc P N c (argsE 0 (rnsL (lowP K [] m) xs)) (rnsM (lowP K [] m) m)
      (finI P rs fun x m' => lowOk (lowP J [] m') ∧ k (rnsAb (lowP K [] m) (rnsA (lowP J [] m') x)) (rnsMb (lowP K [] m) (rnsM (lowP J [] m') m')))) : sCallT P f d xs xt m k q := by
  subst hN; subst hr
  refine .inl fun B N φ fp S ts a w vs hRS hsz hx hxl => ⟨⟨fn, c, hf, hn, hb⟩, ?_⟩
  refine (inl_sound J hf hb hok _ hRS hv.1.1 hv.1.2 ha hsz hx hxl hv.2).mono ?_
  rintro e w' ⟨v, rfl, φ', fp', S', m', x, g1, g2, g3, g4, _⟩
  exact ⟨v, rfl, φ', fp', S', ts, m', x, g1, g2, g3, rfl, g4⟩
end
end Go.Vc

/-
  Draws of locks: what is drawn.
-/
set_option linter.unusedVariables false
set_option linter.unusedSimpArgs false
set_option linter.unnecessarySimpa false
namespace Go.Vc
open Go.Proofs
set_option maxRecDepth 100000
/-- the depths of keys in a chamber -/
def hullAt (keys : List (List Int)) (i : Nat) (d : Nat) : Bool := keys.any fun k => k.getD i 0 == (d : Int)
def hullSet (m : MkM) (keys : List (List Int)) (i : Nat) : List Int := flt (hullAt keys i) m.depths.toNat
def hull (m : MkM) (keys : List (List Int)) (n : Nat) : List (List Int) := (List.range n).map (hullSet m keys)
theorem hull_succ (m : MkM) (keys : List (List Int)) (n : Nat) : hull m keys (n + 1) = hull m keys n ++ [hullSet m keys n] := by simp [hull, List.range_succ]
theorem hull_zero (m : MkM) (keys : List (List Int)) : hull m keys 0 = [] := rfl
theorem hull_len (m : MkM) (keys : List (List Int)) (n : Nat) : (hull m keys n).length = n := by simp [hull]
def keyD (bs : List UInt8) (m : MkM) (s : Src) : List Int × Src := (someK m (cutsTo bs m.depths s m.chambers.toNat).1, (cutsTo bs m.depths s m.chambers.toNat).2)
theorem keyD_ok {bs : List UInt8} {m : MkM} {s : Src} (hm : isMk m = true) (h : SrcOk s) : SrcOk (keyD bs m s).2 ∧ ((keyD bs m s).1.length : Int) = m.chambers ∧ ∀ x ∈ (keyD bs m s).1, 0 ≤ x ∧ x < m.depths := by
  have hn := isMk_num hm
  obtain ⟨h1, h2, h3⟩ := cutsTo_ok (bs := bs) h hn.2.1 m.chambers.toNat
  have := someK_ok hm (by rw [h2]; omega) h3
  exact ⟨h1, this.1, this.2.2.2⟩
def keysD (bs : List UInt8) (m : MkM) (s : Src) : Nat → List (List Int) × Src
  | 0 => ([], s)
  | i + 1 => ((keysD bs m s i).1 ++ [(keyD bs m (keysD bs m s i).2).1], (keyD bs m (keysD bs m s i).2).2)
theorem keysD_ok {bs : List UInt8} {m : MkM} {s : Src} (hm : isMk m = true) (h : SrcOk s) : ∀ i, SrcOk (keysD bs m s i).2 ∧ (keysD bs m s i).1.length = i ∧ ∀ k ∈ (keysD bs m s i).1, (k.length : Int) = m.chambers
  | 0 => ⟨h, rfl, fun k hk => by cases hk⟩
  | i + 1 => by
    obtain ⟨h1, h2, h3⟩ := keysD_ok hm h i (bs := bs)
    obtain ⟨g1, g2, g3⟩ := keyD_ok (bs := bs) hm h1
    refine ⟨g1, by simp [keysD, h2], fun k hk => ?_⟩
    simp only [keysD] at hk
    rcases List.mem_append.1 hk with h | h
    · exact h3 k h
    · simp at h; rw [h]; exact g2
/-- the keys of a drawn lock -/
def keysV (bs : List UInt8) (m : MkM) (s : Src) : List (List Int) × Src := keysD bs m (nx bs 3 s).2 (1 + (nx bs 3 s).1).toNat
def lkW (bs : List UInt8) (m : MkM) (l : List (List Int)) (n : Int × Src) : List (List Int) × Src :=
  if n.1 = 0 then (l.set 0 [(pk bs [0, -1, m.depths] n.2).1], (pk bs [0, -1, m.depths] n.2).2)
  else if n.1 = 1 then (l.set 0 [1, 0], n.2)
  else if n.1 = 2 then (l.set 1 [], n.2)
  else if n.1 = 3 then (l.drop 1, n.2)
  else (l, n.2)
def lkVD (bs : List UInt8) (m : MkM) (s : Src) : List (List Int) × Src :=
  lkW bs m (hull m (keysV bs m s).1 m.chambers.toNat) (nx bs 24 (keysV bs m s).2)
def lkD (bs : List UInt8) (s : Src) : MkM × List (List Int) × Src :=
  if isMk (mkD bs s).1 then ((mkD bs s).1, lkVD bs (mkD bs s).1 (mkD bs s).2) else ((mkD bs s).1, [[0], [0]], (mkD bs s).2)
theorem keysV_ok {bs : List UInt8} {m : MkM} {s : Src} (hm : isMk m = true) (h : SrcOk s) : SrcOk (keysV bs m s).2 ∧ (keysV bs m s).1.length ≤ 3 ∧ ∀ k ∈ (keysV bs m s).1, (k.length : Int) = m.chambers := by
  have hn := nx_ok bs 3 h
  obtain ⟨g1, g2, g3⟩ := keysD_ok (bs := bs) hm hn.2.2.2 (1 + (nx bs 3 s).1).toNat
  have := hn.2.2.1 (by omega)
  unfold keysV
  exact ⟨g1, by omega, g3⟩
theorem hullSet_len (m : MkM) (keys : List (List Int)) (i : Nat) : (hullSet m keys i).length ≤ m.depths.toNat := flt_len _ _
theorem lkW_ok {bs : List UInt8} {m : MkM} {l : List (List Int)} {n : Int × Src} (h : SrcOk n.2) (hl : l.length ≤ 6 ∧ ∀ x ∈ l, x.length ≤ 8) : SrcOk (lkW bs m l n).2 ∧ (lkW bs m l n).1.length ≤ 6 ∧ ∀ x ∈ (lkW bs m l n).1, x.length ≤ 8 := by
  obtain ⟨h1, h2⟩ := hl
  have hset : ∀ (i : Nat) (y : List Int), y.length ≤ 8 → ∀ x ∈ l.set i y, x.length ≤ 8 := fun i y hy x hx => by
    rcases List.mem_or_eq_of_mem_set hx with h | h
    · exact h2 x h
    · rw [h]; exact hy
  unfold lkW
  split
  · exact ⟨pk_ok _ _ h, by simpa using h1, hset _ _ (by simp)⟩
  split
  · exact ⟨h, by simpa using h1, hset _ _ (by simp)⟩
  split
  · exact ⟨h, by simpa using h1, hset _ _ (by simp)⟩
  split
  · exact ⟨h, by simp; omega, fun x hx => h2 x (List.mem_of_mem_drop hx)⟩
  · exact ⟨h, h1, h2⟩
theorem lkD_ok {bs : List UInt8} {s : Src} (h : SrcOk s) : SrcOk (lkD bs s).2.2 ∧ (lkD bs s).2.1.length ≤ 6 ∧ ∀ x ∈ (lkD bs s).2.1, x.length ≤ 8 := by
  have h1 := mkD_ok bs h
  unfold lkD
  split
  · rename_i hm
    have hn := isMk_num hm
    obtain ⟨k1, k2, k3⟩ := keysV_ok (bs := bs) hm h1
    refine lkW_ok (nx_ok bs 24 k1).2.2.2 ⟨by rw [hull_len]; omega, fun x hx => ?_⟩
    simp only [hull, List.mem_map] at hx
    obtain ⟨i, _, rfl⟩ := hx
    have := hullSet_len (mkD bs s).1 (keysV bs (mkD bs s).1 (mkD bs s).2).1 i
    omega
  · refine ⟨h1, by simp, fun x hx => ?_⟩
    simp at hx; subst hx; simp
theorem Sub.arr {sh : Sh} {xs ys : List AV} (h : SubL xs ys) (hf : ∀ i (hx : i < xs.length) (hy : i < ys.length), fits sh xs[i] → fits sh ys[i]) : Sub (.arr sh xs) (.arr sh ys) := fun w S v hv => by
  obtain ⟨h1, h2⟩ := h.get
  cases hv with
  | nil sh a =>
    cases h
    exact .nil sh a
  | arr sh xs b off cap cs e fr hS hb hcap hl hff hv =>
    rw [h1]
    exact .arr sh ys b off cap cs e fr hS hb (h1 ▸ hcap) (h1 ▸ hl) (fun i hi => hf i (by omega) hi (hff i (by omega))) fun i hi => h2 i (by omega) hi _ _ _ (hv i (by omega))
theorem Sub.agg {xs ys : List AV} (h : SubL xs ys) (hf : ∀ i (hx : i < xs.length) (hy : i < ys.length), leaf xs[i] → leaf ys[i]) : Sub (.agg xs) (.agg ys) := fun w S v hv => by
  obtain ⟨h1, h2⟩ := h.get
  cases hv with
  | agg xs cs hl hff hv => exact .agg ys cs (by omega) (fun i hi => hf i (by omega) hi (hff i (by omega))) fun i hi => h2 i (by omega) hi _ _ _ (hv i (by omega))
theorem Sub.tup {xs ys : List AV} (h : SubL xs ys) : Sub (.tup xs) (.tup ys) := fun w S v hv => by
  obtain ⟨h1, h2⟩ := h.get
  cases hv with
  | tup xs cs hl hv => exact .tup ys cs (by omega) fun i hi => h2 i (by omega) hi _ _ _ (hv i (by omega))
theorem SubL.refl : ∀ xs : List AV, SubL xs xs
  | [] => .nil
  | x :: r => .cons (Sub.refl x) (SubL.refl r)
theorem SubL.set {x y : AV} (h : Sub y x) : ∀ (xs : List AV) (i : Nat), SubL (xs.set i y) (xs.set i x)
  | [], _ => .nil
  | z :: r, 0 => .cons h (SubL.refl r)
  | z :: r, i + 1 => .cons (Sub.refl z) (SubL.set h r i)
theorem FnMR.sub {P : Program} {f : FuncId} {io : List Blk} {args : List AV} {post post' : AV → List Blk → Prop} (h : FnMR P f io args post) (hp : ∀ r io', post r io' → ∃ r', Sub r r' ∧ post' r' io') : FnMR P f io args post' :=
  ⟨h.1, fun w φ fp S vs h1 h2 => (h.2 w φ fp S vs h1 h2).mono fun _ _ ⟨x, v, io', φ', fp', S', m', g1, g2, g4, g5, g6⟩ => by
    obtain ⟨r', q1, q2⟩ := hp _ _ g2
    exact ⟨r', v, io', φ', fp', S', m', g1, q2, g4, g5, q1 _ _ _ g6⟩⟩
end Go.Vc

/-
  Contract: the draw of a lock.
-/
set_option linter.unusedVariables false
set_option linter.unusedSimpArgs false
set_option linter.unnecessarySimpa false
namespace Go.Vc
open Go.Proofs
set_option maxRecDepth 100000
set_option maxHeartbeats 4000000
theorem lock_sub {m : MkM} {l : List (List Int)} {L : List AV} (h : SubL L (l.map eIs)) : Sub (.tup [eMk m, .agg [.arr ⟨1, false⟩ L]]) (.tup [eMk m, eLk l]) :=
  Sub.tup (.cons (Sub.refl _) (.cons (Sub.agg (.cons (Sub.arr h fun i hx hy _ => by rw [List.getElem_map]; exact ⟨rfl, rfl⟩) .nil) fun i hx hy _ => by
    have : i = 0 := by simpa using hy
    subst this; exact trivial) .nil))
theorem c_l04Draw (v : Nat) (bs : List UInt8) (s : Src) (h : SrcOk s) (hl : bs.length ≤ 4096) :
    FnMR Try.prog 79 [srcB v bs s] [.ptr 1000000000 v 0 0] (fun x io => x = .tup [eMk (lkD bs s).1, eLk (lkD bs s).2.1] ∧ io = [srcB v bs (lkD bs s).2.2]) := by
  refine FnMR.sub (post := fun x io => (∃ L, SubL L ((lkD bs s).2.1.map eIs) ∧ x = .tup [eMk (lkD bs s).1, .agg [.arr ⟨1, false⟩ L]]) ∧ io = [srcB v bs (lkD bs s).2.2]) (FnMR.of_vc 52 [.cell 2 43, .cell 3 45] Try.func79 rfl rfl rfl rfl rfl (of_decide_eq_true rfl) ?_) (by
    rintro _ _ ⟨⟨L, hL, rfl⟩, rfl⟩
    exact ⟨_, lock_sub hL, rfl, rfl⟩)
  have h1 := mkD_ok bs h
  have q1 := fun v => c_l02Draw v bs s h hl
  unfold lkD
  generalize mkD bs s = p at *
  obtain ⟨m, s1⟩ := p
  dsimp only at h1 q1 ⊢
  rcases hm : isMk m with _ | _
  · rw [if_neg (by simp)]
    simp -dsimp -implicitDefEqProofs only [go_sem, ↓reduceIte, Nat.reduceEqDiff, Nat.reduceLT, Nat.reduceAdd, Nat.reduceMul, Nat.reduceLeDiff, Nat.le_refl, Int.natCast_zero, Int.toNat_natCast, Int.reduceToNat]
    (refine sCallT_io [1000000000] ?_; simp -dsimp -implicitDefEqProofs only [go_sem, ↓reduceIte, Nat.reduceEqDiff, Nat.reduceLT, Nat.reduceAdd, Nat.reduceMul, Nat.reduceLeDiff, Nat.le_refl, Int.natCast_zero, Int.toNat_natCast, Int.reduceToNat]; refine sCallM_one (q1 _) ?_; simp -dsimp -implicitDefEqProofs only [go_sem, ↓reduceIte, Nat.reduceEqDiff, Nat.reduceLT, Nat.reduceAdd, Nat.reduceMul, Nat.reduceLeDiff, Nat.le_refl, Int.natCast_zero, Int.toNat_natCast, Int.reduceToNat])
    refine sCallT_one (c_sIsMaker m) ?_
    simp -dsimp -implicitDefEqProofs only [go_sem, ↓reduceIte, Nat.reduceEqDiff, Nat.reduceLT, Nat.reduceAdd, Nat.reduceMul, Nat.reduceLeDiff, Nat.le_refl, Int.natCast_zero, Int.toNat_natCast, Int.reduceToNat, hm]
    ((repeat' (with_reducible refine And.intro ?_ ?_)); all_goals try (first | omega | (refine ⟨?_, ?_⟩ <;> omega) | (exact rfl)))
    all_goals first | exact ⟨_, SubL.refl _, rfl⟩ | trace_state
  have hn := isMk_num hm
  obtain ⟨⟨n1, n2⟩, n3, n4⟩ := hn
  rw [if_pos rfl]
  unfold lkVD keysV
  have hnx := nx_ok bs 3 h1
  have q2 := fun v => c_l01Next v bs 3 _ h1 hl
  have hk := keysD_ok (bs := bs) (m := m) hm hnx.2.2.2
  generalize nx bs 3 s1 = a at *
  obtain ⟨a1, a2, a3, a4⟩ := hnx
  have a3 := a3 (by omega)
  simp -dsimp -implicitDefEqProofs only [go_sem, ↓reduceIte, Nat.reduceEqDiff, Nat.reduceLT, Nat.reduceAdd, Nat.reduceMul, Nat.reduceLeDiff, Nat.le_refl, Int.natCast_zero, Int.toNat_natCast, Int.reduceToNat]
  (refine sCallT_io [1000000000] ?_; simp -dsimp -implicitDefEqProofs only [go_sem, ↓reduceIte, Nat.reduceEqDiff, Nat.reduceLT, Nat.reduceAdd, Nat.reduceMul, Nat.reduceLeDiff, Nat.le_refl, Int.natCast_zero, Int.toNat_natCast, Int.reduceToNat]; refine sCallM_one (q1 _) ?_; simp -dsimp -implicitDefEqProofs only [go_sem, ↓reduceIte, Nat.reduceEqDiff, Nat.reduceLT, Nat.reduceAdd, Nat.reduceMul, Nat.reduceLeDiff, Nat.le_refl, Int.natCast_zero, Int.toNat_natCast, Int.reduceToNat])
  refine sCallT_one (c_sIsMaker m) ?_
  simp -dsimp -implicitDefEqProofs only [go_sem, ↓reduceIte, Nat.reduceEqDiff, Nat.reduceLT, Nat.reduceAdd, Nat.reduceMul, Nat.reduceLeDiff, Nat.le_refl, Int.natCast_zero, Int.toNat_natCast, Int.reduceToNat, hm]
  refine sCallT_inl 200000 24 [.cell 4 45] Try.func125 rfl rfl rfl rfl rfl (by exact of_decide_eq_true rfl) ?_
  simp -dsimp -implicitDefEqProofs only [go_sem, ↓reduceIte, Nat.reduceEqDiff, Nat.reduceLT, Nat.reduceAdd, Nat.reduceMul, Nat.reduceLeDiff, Nat.le_refl, Int.natCast_zero, Int.toNat_natCast, Int.reduceToNat]
  (refine sCallT_io [1000000000] ?_; simp -dsimp -implicitDefEqProofs only [go_sem, ↓reduceIte, Nat.reduceEqDiff, Nat.reduceLT, Nat.reduceAdd, Nat.reduceMul, Nat.reduceLeDiff, Nat.le_refl, Int.natCast_zero, Int.toNat_natCast, Int.reduceToNat]; refine sCallM_one (q2 _) ?_; simp -dsimp -implicitDefEqProofs only [go_sem, ↓reduceIte, Nat.reduceEqDiff, Nat.reduceLT, Nat.reduceAdd, Nat.reduceMul, Nat.reduceLeDiff, Nat.le_refl, Int.natCast_zero, Int.toNat_natCast, Int.reduceToNat])
  ((repeat' (with_reducible refine And.intro ?_ ?_)); all_goals try (first | omega | (refine ⟨?_, ?_⟩ <;> omega) | (exact rfl)))
  refine Later.up [0, 3, 4] [18, 19, 20] [7, 1000000000] (1 + a.1).toNat (fun _ => True) (fun i => [(6, eI (1 + a.1 - (i : Int))), (5, .ref 7 0 0 (keysD bs m a.2 i).1.length)]) (fun i => [(7, .row 0 ⟨1, false⟩ (i == 0) ((keysD bs m a.2 i).1.map eIs)), (1000000000, srcB v bs (keysD bs m a.2 i).2)]) trivial ?_ rfl (fun i hi _ => ?_) (fun _ => ?_)
  · simp -dsimp -implicitDefEqProofs only [go_sem, ↓reduceIte, Nat.reduceEqDiff, Nat.reduceLT, Nat.reduceAdd, Nat.reduceMul, Nat.reduceLeDiff, Nat.le_refl, Int.natCast_zero, Int.toNat_natCast, Int.reduceToNat]
    all_goals (first | (simp [keysD]; done) | trace_state)
  · obtain ⟨hk1, hk2, hk3⟩ := hk i
    have hgt : decide (1 + a.1 - (i : Int) > 0) = true := decide_eq_true (by omega)
    have q := fun v => c_l02Some v bs _ m hk1 hm hl
    have hsucc : keysD bs m a.2 (i + 1) = ((keysD bs m a.2 i).1 ++ [(keyD bs m (keysD bs m a.2 i).2).1], (keyD bs m (keysD bs m a.2 i).2).2) := rfl
    rw [hsucc]
    clear hsucc hk
    unfold keyD
    generalize cutsTo bs m.depths (keysD bs m a.2 i).2 m.chambers.toNat = c at *
    generalize keysD bs m a.2 i = K at *
    generalize someK m c.1 = key at *
    have htk : List.take K.1.length (List.map eIs K.1) = List.map eIs K.1 := List.take_of_length_le (by simp)
    simp -dsimp -implicitDefEqProofs only [pick_nil, pick_cons, look_nil, look_cons, dropB_nil, dropB_cons, inD_nil, inD_cons, inE_nil, inE_cons, or_t_l, or_f_l, Nat.reduceBEq, Nat.reduceDiv, Nat.reduceAdd, beq_self_eq_true, Bool.false_eq_true, Bool.or_false, ↓reduceIte, Nat.reduceEqDiff, List.cons_append, List.nil_append]
    simp -dsimp -implicitDefEqProofs only [go_sem, ↓reduceIte, Nat.reduceEqDiff, Nat.reduceLT, Nat.reduceAdd, Nat.reduceMul, Nat.reduceLeDiff, Nat.le_refl, Int.natCast_zero, Int.toNat_natCast, Int.reduceToNat, hgt]
    refine sCallT_ioR [1000000000] ?_
    simp -dsimp -implicitDefEqProofs only [go_sem, ↓reduceIte, Nat.reduceEqDiff, Nat.reduceLT, Nat.reduceAdd, Nat.reduceMul, Nat.reduceLeDiff, Nat.le_refl, Int.natCast_zero, Int.toNat_natCast, Int.reduceToNat]
    refine sCallMR_any (q _) ?_
    rintro _ _ ⟨rfl, rfl⟩
    simp -dsimp -implicitDefEqProofs only [go_sem, ↓reduceIte, Nat.reduceEqDiff, Nat.reduceLT, Nat.reduceAdd, Nat.reduceMul, Nat.reduceLeDiff, Nat.le_refl, Int.natCast_zero, Int.toNat_natCast, Int.reduceToNat]
    ((repeat' (with_reducible refine And.intro ?_ ?_)); all_goals try (first | omega | (refine ⟨?_, ?_⟩ <;> omega) | (exact rfl)))
    refine .inr ⟨by omega, (by cases i with | zero => exact .inr hk2 | succ i => exact .inl rfl), ?_⟩
    have e0 : (i + 1 == 0) = false := rfl
    have e1 : 1 + a.1 - (i : Int) - 1 = 1 + a.1 - ((i + 1 : Nat) : Int) := by omega
    have e2 : List.map eIs (K.1 ++ [key]) = List.map eIs K.1 ++ [eIs key] := by simp
    rw [e0, e1, e2]
    simp -dsimp -implicitDefEqProofs only [go_sem, ↓reduceIte, Nat.reduceEqDiff, Nat.reduceLT, Nat.reduceAdd, Nat.reduceMul, Nat.reduceLeDiff, Nat.le_refl, Int.natCast_zero, Int.toNat_natCast, Int.reduceToNat]
    exact ⟨by omega, by omega⟩
  · obtain ⟨hk1, hk2, hk3⟩ := hk (1 + a.1).toNat
    have hgt : decide (1 + a.1 - (((1 + a.1).toNat : Nat) : Int) > 0) = false := decide_eq_false (by omega)
    have q3 := fun v => c_l01Next v bs 24 _ hk1 hl
    have h24 := nx_ok bs 24 hk1
    have hne : ((1 + a.1).toNat == 0) = false := by simp; omega
    clear hk
    generalize keysD bs m a.2 (1 + a.1).toNat = K at *
    generalize nx bs 24 K.2 = n at *
    simp -dsimp -implicitDefEqProofs only [pick_nil, pick_cons, look_nil, look_cons, dropB_nil, dropB_cons, inD_nil, inD_cons, inE_nil, inE_cons, or_t_l, or_f_l, Nat.reduceBEq, Nat.reduceDiv, Nat.reduceAdd, beq_self_eq_true, Bool.false_eq_true, Bool.or_false, ↓reduceIte, Nat.reduceEqDiff, List.cons_append, List.nil_append]
    simp -dsimp -implicitDefEqProofs only [go_sem, ↓reduceIte, Nat.reduceEqDiff, Nat.reduceLT, Nat.reduceAdd, Nat.reduceMul, Nat.reduceLeDiff, Nat.le_refl, Int.natCast_zero, Int.toNat_natCast, Int.reduceToNat, hgt]
    rw [hne]
    clear hne
    refine sCallT_inlK 1600000000 300000 54 [.cell 4 45] Try.func147 rfl rfl rfl rfl rfl (by exact of_decide_eq_true rfl) ?_
    simp -dsimp -implicitDefEqProofs only [go_sem, ↓reduceIte, Nat.reduceEqDiff, Nat.reduceLT, Nat.reduceAdd, Nat.reduceMul, Nat.reduceLeDiff, Nat.le_refl, Int.natCast_zero, Int.toNat_natCast, Int.reduceToNat]
    refine Later.up [1, 2, 4] [18, 27, 46, 47, 50, 51] [11] m.chambers.toNat (fun _ => True) (fun i => [(6, eI i), (5, .ref 11 0 0 i)]) (fun i => [(11, .row 0 ⟨1, false⟩ (i == 0) ((hull m K.1 i).map eIs))]) trivial ?_ rfl (fun i hi _ => ?_) (fun _ => ?_)
    · simp -dsimp -implicitDefEqProofs only [go_sem, ↓reduceIte, Nat.reduceEqDiff, Nat.reduceLT, Nat.reduceAdd, Nat.reduceMul, Nat.reduceLeDiff, Nat.le_refl, Int.natCast_zero, Int.toNat_natCast, Int.reduceToNat, hull_zero]
    · have hlt : decide ((i : Int) < m.chambers) = true := decide_eq_true (by omega)
      have hhl := hull_len m K.1 i
      rw [hull_succ]
      unfold hullSet
      generalize hull m K.1 i = H at *
      simp -dsimp -implicitDefEqProofs only [pick_nil, pick_cons, look_nil, look_cons, dropB_nil, dropB_cons, inD_nil, inD_cons, inE_nil, inE_cons, or_t_l, or_f_l, Nat.reduceBEq, Nat.reduceDiv, Nat.reduceAdd, beq_self_eq_true, Bool.false_eq_true, Bool.or_false, ↓reduceIte, Nat.reduceEqDiff, List.cons_append, List.nil_append]
      simp -dsimp -implicitDefEqProofs only [go_sem, ↓reduceIte, Nat.reduceEqDiff, Nat.reduceLT, Nat.reduceAdd, Nat.reduceMul, Nat.reduceLeDiff, Nat.le_refl, Int.natCast_zero, Int.toNat_natCast, Int.reduceToNat, hlt]
      refine Later.up [1, 2, 4, 5, 6] [27, 46, 47] [18] m.depths.toNat (fun _ => True) (fun d => [(8, eI d), (7, .ref 18 0 0 (flt (hullAt K.1 i) d).length)]) (fun d => [(18, .row 0 ⟨1, false⟩ true ((flt (hullAt K.1 i) d).map eI))]) trivial ?_ rfl (fun d hd _ => ?_) (fun _ => ?_)
      · simp -dsimp -implicitDefEqProofs only [go_sem, ↓reduceIte, Nat.reduceEqDiff, Nat.reduceLT, Nat.reduceAdd, Nat.reduceMul, Nat.reduceLeDiff, Nat.le_refl, Int.natCast_zero, Int.toNat_natCast, Int.reduceToNat, flt_zero]
      · have hltd : decide ((d : Int) < m.depths) = true := decide_eq_true (by omega)
        have hfl := flt_len (hullAt K.1 i) d
        rw [flt_succ]
        have hany : hullAt K.1 i d = (K.1.take K.1.length).any fun x => x.getD i 0 == (d : Int) := by rw [List.take_length]; rfl
        rw [hany]
        clear hany
        generalize flt (hullAt K.1 i) d = F at *
        simp -dsimp -implicitDefEqProofs only [pick_nil, pick_cons, look_nil, look_cons, dropB_nil, dropB_cons, inD_nil, inD_cons, inE_nil, inE_cons, or_t_l, or_f_l, Nat.reduceBEq, Nat.reduceDiv, Nat.reduceAdd, beq_self_eq_true, Bool.false_eq_true, Bool.or_false, ↓reduceIte, Nat.reduceEqDiff, List.cons_append, List.nil_append]
        simp -dsimp -implicitDefEqProofs only [go_sem, ↓reduceIte, Nat.reduceEqDiff, Nat.reduceLT, Nat.reduceAdd, Nat.reduceMul, Nat.reduceLeDiff, Nat.le_refl, Int.natCast_zero, Int.toNat_natCast, Int.reduceToNat, hltd]
        refine Later.up [1, 2, 4, 5, 6, 7, 8] [27] [] K.1.length (fun _ => True) (fun k => [(10, eI k), (9, eB ((K.1.take k).any fun x => x.getD i 0 == (d : Int)))]) (fun _ => []) trivial ?_ rfl (fun k hk' _ => ?_) (fun _ => ?_)
        · simp -dsimp -implicitDefEqProofs only [go_sem, ↓reduceIte, Nat.reduceEqDiff, Nat.reduceLT, Nat.reduceAdd, Nat.reduceMul, Nat.reduceLeDiff, Nat.le_refl, Int.natCast_zero, Int.toNat_natCast, Int.reduceToNat]
          exact rfl
        · have hkl : i < K.1[k].length := by have := hk3 _ (List.getElem_mem hk'); omega
          have gk := get_some hk'
          have gi := get_some hkl
          have hgd : K.1[k].getD i 0 = K.1[k][i] := by simp [List.getD_eq_getElem?_getD, hkl]
          rw [any_take _ _ _ hk', hgd]
          have lk := lt_len hk'
          generalize K.1[k] = x at *
          generalize x[i] = z at *
          generalize ((K.1.take k).any fun x => x.getD i 0 == (d : Int)) = b at *
          simp -dsimp -implicitDefEqProofs only [pick_nil, pick_cons, look_nil, look_cons, dropB_nil, dropB_cons, inD_nil, inD_cons, inE_nil, inE_cons, or_t_l, or_f_l, Nat.reduceBEq, Nat.reduceDiv, Nat.reduceAdd, beq_self_eq_true, Bool.false_eq_true, Bool.or_false, ↓reduceIte, Nat.reduceEqDiff, List.cons_append, List.nil_append]
          cases b <;> simp -dsimp -implicitDefEqProofs only [go_sem, ↓reduceIte, Nat.reduceEqDiff, Nat.reduceLT, Nat.reduceAdd, Nat.reduceMul, Nat.reduceLeDiff, Nat.le_refl, Int.natCast_zero, Int.toNat_natCast, Int.reduceToNat, lk, gk, gi]
          · exact ⟨⟨by omega, by omega⟩, ⟨by omega, by omega⟩, ⟨by omega, by omega⟩, rfl⟩
          · exact ⟨⟨by omega, by omega⟩, rfl⟩
        · generalize ((K.1.take K.1.length).any fun x => x.getD i 0 == (d : Int)) = b at *
          simp -dsimp -implicitDefEqProofs only [pick_nil, pick_cons, look_nil, look_cons, dropB_nil, dropB_cons, inD_nil, inD_cons, inE_nil, inE_cons, or_t_l, or_f_l, Nat.reduceBEq, Nat.reduceDiv, Nat.reduceAdd, beq_self_eq_true, Bool.false_eq_true, Bool.or_false, ↓reduceIte, Nat.reduceEqDiff, List.cons_append, List.nil_append]
          cases b <;> simp -dsimp -implicitDefEqProofs only [go_sem, ↓reduceIte, Nat.reduceEqDiff, Nat.reduceLT, Nat.reduceAdd, Nat.reduceMul, Nat.reduceLeDiff, Nat.le_refl, Int.natCast_zero, Int.toNat_natCast, Int.reduceToNat, nlt_len]
          · exact ⟨⟨by omega, by omega⟩, rfl⟩
          · exact ⟨by omega, ⟨by omega, by omega⟩, rfl, by simp⟩
      · have hltd : decide (((m.depths.toNat : Nat) : Int) < m.depths) = false := decide_eq_false (by omega)
        have hfl := flt_len (hullAt K.1 i) m.depths.toNat
        generalize flt (hullAt K.1 i) m.depths.toNat = F at *
        have htk : List.take F.length (List.map eI F) = List.map eI F := List.take_of_length_le (by simp)
        have htk2 : List.take i (List.map eIs H) = List.map eIs H := List.take_of_length_le (by simp; omega)
        have e2 : List.map eIs (H ++ [F]) = List.map eIs H ++ [eIs F] := by simp
        have e0 : (i + 1 == 0) = false := rfl
        simp -dsimp -implicitDefEqProofs only [pick_nil, pick_cons, look_nil, look_cons, dropB_nil, dropB_cons, inD_nil, inD_cons, inE_nil, inE_cons, or_t_l, or_f_l, Nat.reduceBEq, Nat.reduceDiv, Nat.reduceAdd, beq_self_eq_true, Bool.false_eq_true, Bool.or_false, ↓reduceIte, Nat.reduceEqDiff, List.cons_append, List.nil_append]
        simp -dsimp -implicitDefEqProofs only [go_sem, ↓reduceIte, Nat.reduceEqDiff, Nat.reduceLT, Nat.reduceAdd, Nat.reduceMul, Nat.reduceLeDiff, Nat.le_refl, Int.natCast_zero, Int.toNat_natCast, Int.reduceToNat, hltd]
        refine .inr ⟨by omega, by omega, (by cases i with | zero => exact .inr rfl | succ i => exact .inl rfl), ⟨by omega, by omega⟩, rfl, ?_⟩
        rw [e0, e2]
        simp -dsimp -implicitDefEqProofs only [go_sem, ↓reduceIte, Nat.reduceEqDiff, Nat.reduceLT, Nat.reduceAdd, Nat.reduceMul, Nat.reduceLeDiff, Nat.le_refl, Int.natCast_zero, Int.toNat_natCast, Int.reduceToNat, htk, htk2]
    · have hlt : decide (((m.chambers.toNat : Nat) : Int) < m.chambers) = false := decide_eq_false (by omega)
      have hhl := hull_len m K.1 m.chambers.toNat
      generalize hull m K.1 m.chambers.toNat = H at *
      simp -dsimp -implicitDefEqProofs only [pick_nil, pick_cons, look_nil, look_cons, dropB_nil, dropB_cons, inD_nil, inD_cons, inE_nil, inE_cons, or_t_l, or_f_l, Nat.reduceBEq, Nat.reduceDiv, Nat.reduceAdd, beq_self_eq_true, Bool.false_eq_true, Bool.or_false, ↓reduceIte, Nat.reduceEqDiff, List.cons_append, List.nil_append]
      simp -dsimp -implicitDefEqProofs only [go_sem, ↓reduceIte, Nat.reduceEqDiff, Nat.reduceLT, Nat.reduceAdd, Nat.reduceMul, Nat.reduceLeDiff, Nat.le_refl, Int.natCast_zero, Int.toNat_natCast, Int.reduceToNat, hlt]
      have hc0 : (m.chambers.toNat == 0) = false := by simp; omega
      obtain ⟨h24a, h24b, h24c, h24d⟩ := h24
      have h24c := h24c (by omega)
      have hH1 : 0 < H.length := by omega
      have hH2 : 1 < H.length := by omega
      rw [hc0]
      unfold lkW
      clear hc0 h24b
      (refine sCallT_io [1000000000] ?_; simp -dsimp -implicitDefEqProofs only [go_sem, ↓reduceIte, Nat.reduceEqDiff, Nat.reduceLT, Nat.reduceAdd, Nat.reduceMul, Nat.reduceLeDiff, Nat.le_refl, Int.natCast_zero, Int.toNat_natCast, Int.reduceToNat]; refine sCallM_one (q3 _) ?_; simp -dsimp -implicitDefEqProofs only [go_sem, ↓reduceIte, Nat.reduceEqDiff, Nat.reduceLT, Nat.reduceAdd, Nat.reduceMul, Nat.reduceLeDiff, Nat.le_refl, Int.natCast_zero, Int.toNat_natCast, Int.reduceToNat])
      rcases b0 : (n.1 == 0) with _ | _
      rotate_left
      · have e0 : n.1 = 0 := beq_iff_eq.1 b0
        rw [if_pos e0]
        have qp := fun v v2 => c_l01Pick v v2 true bs [0, -1, m.depths] _ n.2 rfl (by simp) (by simp) h24d hl
        generalize pk bs [0, -1, m.depths] n.2 = pp at *
        clear e0
        simp -dsimp -implicitDefEqProofs only [go_sem, ↓reduceIte, Nat.reduceEqDiff, Nat.reduceLT, Nat.reduceAdd, Nat.reduceMul, Nat.reduceLeDiff, Nat.le_refl, Int.natCast_zero, Int.toNat_natCast, Int.reduceToNat, b0]
        refine Later.solo 9 mixed rfl ?_
        simp -dsimp -implicitDefEqProofs only [go_sem, ↓reduceIte, Nat.reduceEqDiff, Nat.reduceLT, Nat.reduceAdd, Nat.reduceMul, Nat.reduceLeDiff, Nat.le_refl, Int.natCast_zero, Int.toNat_natCast, Int.reduceToNat]
        refine sCallX_io [1000000000, 28] rfl ?_
        simp -dsimp -implicitDefEqProofs only [go_sem, ↓reduceIte, Nat.reduceEqDiff, Nat.reduceLT, Nat.reduceAdd, Nat.reduceMul, Nat.reduceLeDiff, Nat.le_refl, Int.natCast_zero, Int.toNat_natCast, Int.reduceToNat]
        refine sCallMX_one (qp _ _) ?_
        simp -dsimp -implicitDefEqProofs only [go_sem, ↓reduceIte, Nat.reduceEqDiff, Nat.reduceLT, Nat.reduceAdd, Nat.reduceMul, Nat.reduceLeDiff, Nat.le_refl, Int.natCast_zero, Int.toNat_natCast, Int.reduceToNat]
        refine ⟨⟨by omega, by omega⟩, by exact rfl, ?_⟩
        refine .inr ⟨by omega, ?_⟩
        refine Later.draw mixed rfl ?_
        simp -dsimp -implicitDefEqProofs only [go_sem, ↓reduceIte, Nat.reduceEqDiff, Nat.reduceLT, Nat.reduceAdd, Nat.reduceMul, Nat.reduceLeDiff, Nat.le_refl, Int.natCast_zero, Int.toNat_natCast, Int.reduceToNat]
        refine ⟨by exact rfl, by simp; omega, _, ?_, rfl⟩
        rw [List.take_of_length_le (by simp; omega)]
        exact List.map_set ▸ SubL.refl _
      rw [if_neg (beq_eq_false_iff_ne.1 b0)]
      rcases b1 : (n.1 == 1) with _ | _
      rotate_left
      · have e1 : n.1 = 1 := beq_iff_eq.1 b1
        rw [if_pos e1]
        clear e1
        simp -dsimp -implicitDefEqProofs only [go_sem, ↓reduceIte, Nat.reduceEqDiff, Nat.reduceLT, Nat.reduceAdd, Nat.reduceMul, Nat.reduceLeDiff, Nat.le_refl, Int.natCast_zero, Int.toNat_natCast, Int.reduceToNat, b0, b1]
        refine ⟨⟨by omega, by omega⟩, .inr ⟨by omega, ?_⟩⟩
        refine Later.draw mixed rfl ?_
        simp -dsimp -implicitDefEqProofs only [go_sem, ↓reduceIte, Nat.reduceEqDiff, Nat.reduceLT, Nat.reduceAdd, Nat.reduceMul, Nat.reduceLeDiff, Nat.le_refl, Int.natCast_zero, Int.toNat_natCast, Int.reduceToNat]
        refine ⟨by exact rfl, by simp; omega, _, ?_, rfl⟩
        rw [List.take_of_length_le (by simp; omega)]
        exact List.map_set ▸ SubL.refl _
      rw [if_neg (beq_eq_false_iff_ne.1 b1)]
      rcases b2 : (n.1 == 2) with _ | _
      rotate_left
      · have e2 : n.1 = 2 := beq_iff_eq.1 b2
        rw [if_pos e2]
        clear e2
        simp -dsimp -implicitDefEqProofs only [go_sem, ↓reduceIte, Nat.reduceEqDiff, Nat.reduceLT, Nat.reduceAdd, Nat.reduceMul, Nat.reduceLeDiff, Nat.le_refl, Int.natCast_zero, Int.toNat_natCast, Int.reduceToNat, b0, b1, b2]
        refine ⟨⟨by omega, by omega⟩, .inr ⟨by omega, ?_⟩⟩
        refine Later.draw mixed rfl ?_
        simp -dsimp -implicitDefEqProofs only [go_sem, ↓reduceIte, Nat.reduceEqDiff, Nat.reduceLT, Nat.reduceAdd, Nat.reduceMul, Nat.reduceLeDiff, Nat.le_refl, Int.natCast_zero, Int.toNat_natCast, Int.reduceToNat]
        refine ⟨by exact rfl, by simp; omega, _, ?_, rfl⟩
        rw [List.take_of_length_le (by simp; omega), List.map_set]
        exact SubL.set (Sub.nil _) _ _
      rw [if_neg (beq_eq_false_iff_ne.1 b2)]
      rcases b3 : (n.1 == 3) with _ | _
      rotate_left
      · have e3 : n.1 = 3 := beq_iff_eq.1 b3
        rw [if_pos e3]
        clear e3
        simp -dsimp -implicitDefEqProofs only [go_sem, ↓reduceIte, Nat.reduceEqDiff, Nat.reduceLT, Nat.reduceAdd, Nat.reduceMul, Nat.reduceLeDiff, Nat.le_refl, Int.natCast_zero, Int.toNat_natCast, Int.reduceToNat, b0, b1, b2, b3]
        refine Later.draw mixed rfl ?_
        simp -dsimp -implicitDefEqProofs only [go_sem, ↓reduceIte, Nat.reduceEqDiff, Nat.reduceLT, Nat.reduceAdd, Nat.reduceMul, Nat.reduceLeDiff, Nat.le_refl, Int.natCast_zero, Int.toNat_natCast, Int.reduceToNat]
        refine ⟨⟨by omega, by omega, by omega⟩, by exact rfl, by omega, _, SubL.refl _, ?_⟩
        rw [List.take_of_length_le (by simp; omega), List.map_drop]
      rw [if_neg (beq_eq_false_iff_ne.1 b3)]
      simp -dsimp -implicitDefEqProofs only [go_sem, ↓reduceIte, Nat.reduceEqDiff, Nat.reduceLT, Nat.reduceAdd, Nat.reduceMul, Nat.reduceLeDiff, Nat.le_refl, Int.natCast_zero, Int.toNat_natCast, Int.reduceToNat, b0, b1, b2, b3]
      refine Later.draw mixed rfl ?_
      simp -dsimp -implicitDefEqProofs only [go_sem, ↓reduceIte, Nat.reduceEqDiff, Nat.reduceLT, Nat.reduceAdd, Nat.reduceMul, Nat.reduceLeDiff, Nat.le_refl, Int.natCast_zero, Int.toNat_natCast, Int.reduceToNat]
      refine ⟨by exact rfl, by omega, _, SubL.refl _, ?_⟩
      rw [List.take_of_length_le (by simp; omega)]
end Go.Vc

/-
  Contracts of the helpers of laws that draw: lists alike, sums; the source that follows from a code.
-/
set_option linter.unusedVariables false
set_option linter.unusedSimpArgs false
set_option linter.unnecessarySimpa false
namespace Go.Vc
open Go.Proofs
set_option maxRecDepth 100000
theorem c_big (bs : List UInt8) (h : bs.length ≤ 9223372036854775807) : Fn Try.prog 8 [eYs bs] true (· = eB (decide ((bs.length : Int) > 4096))) := by
  refine Fn.of_vcN 6 [.tmp 2] Try.func8 rfl rfl rfl rfl rfl (of_decide_eq_true rfl) ?_
  simp -dsimp -implicitDefEqProofs only [go_sem, ↓reduceIte, Nat.reduceEqDiff, Nat.reduceLT, Nat.reduceAdd, Nat.reduceMul, Nat.reduceLeDiff, Nat.le_refl, Int.natCast_zero, Int.toNat_natCast, Int.reduceToNat]
  repeat' (with_reducible refine And.intro ?_ ?_)
  all_goals first | omega | (simp; done)
theorem c_likeInts (xs ys : List Int) (h : xs.length ≤ 9223372036854775807) : Fn Try.prog 15 [eIs xs, eIs ys] true (· = eB (decide (xs = ys))) := by
  refine Fn.of_vcN 26 [.tmp 4] Try.func15 rfl rfl rfl rfl rfl (of_decide_eq_true rfl) ?_
  simp -dsimp -implicitDefEqProofs only [go_sem, ↓reduceIte, Nat.reduceEqDiff, Nat.reduceLT, Nat.reduceAdd, Nat.reduceMul, Nat.reduceLeDiff, Nat.le_refl, Int.natCast_zero, Int.toNat_natCast, Int.reduceToNat]
  repeat' (refine Br.intro (fun _ => ?_) (fun _ => ?_) <;> try simp -dsimp -implicitDefEqProofs only [go_sem, ↓reduceIte, Nat.reduceEqDiff, Nat.reduceLT, Nat.reduceAdd, Nat.reduceMul, Nat.reduceLeDiff, Nat.le_refl, Int.natCast_zero, Int.toNat_natCast, Int.reduceToNat, *])
  · rw [decide_eq_false]; intro e; subst e; simp_all
  have h1 : xs.length = ys.length := by simp_all <;> omega
  refine Later.up [0, 1] [13] [] xs.length (fun i => xs.take i = ys.take i) (fun i => [(5, eI i)]) (fun _ => []) rfl ?_ rfl (fun i hi hI => ?_) (fun hI => ?_)
  · simp -dsimp -implicitDefEqProofs only [go_sem, ↓reduceIte, Nat.reduceEqDiff, Nat.reduceLT, Nat.reduceAdd, Nat.reduceMul, Nat.reduceLeDiff, Nat.le_refl, Int.natCast_zero, Int.toNat_natCast, Int.reduceToNat]
  · simp -dsimp -implicitDefEqProofs only [pick_nil, pick_cons, look_nil, look_cons, dropB_nil, dropB_cons, inD_nil, inD_cons, inE_nil, inE_cons, or_t_l, or_f_l, Nat.reduceBEq, Nat.reduceDiv, Nat.reduceAdd, beq_self_eq_true, Bool.false_eq_true, Bool.or_false, ↓reduceIte, Nat.reduceEqDiff, List.cons_append, List.nil_append]
    have hy : i < ys.length := by omega
    have no : xs[i] ≠ ys[i] → decide (xs = ys) = false := eq_no hi hy
    have yes : xs[i] = ys[i] → xs.take (i + 1) = ys.take (i + 1) := eq_yes hi hy hI
    simp -dsimp -implicitDefEqProofs only [go_sem, ↓reduceIte, Nat.reduceEqDiff, Nat.reduceLT, Nat.reduceAdd, Nat.reduceMul, Nat.reduceLeDiff, Nat.le_refl, Int.natCast_zero, Int.toNat_natCast, Int.reduceToNat, lt_len hi, get_some hi]
    refine Later.draw mixed rfl ?_
    simp -dsimp -implicitDefEqProofs only [go_sem, ↓reduceIte, Nat.reduceEqDiff, Nat.reduceLT, Nat.reduceAdd, Nat.reduceMul, Nat.reduceLeDiff, Nat.le_refl, Int.natCast_zero, Int.toNat_natCast, Int.reduceToNat, get_some hi, get_some hy]
    repeat' first
      | (refine Br.intro (fun _ => ?_) (fun _ => ?_) <;> try simp -dsimp -implicitDefEqProofs only [go_sem, ↓reduceIte, Nat.reduceEqDiff, Nat.reduceLT, Nat.reduceAdd, Nat.reduceMul, Nat.reduceLeDiff, Nat.le_refl, Int.natCast_zero, Int.toNat_natCast, Int.reduceToNat, *])
      | (with_reducible refine And.intro ?_ ?_)
      | fail
    all_goals first
      | omega
      | (refine ⟨?_, ?_⟩ <;> omega)
      | rfl
      | (simp; done)
      | (rw [no]; clear no yes; simp_all; done)
      | (refine yes ?_; clear no yes; simp_all; done)
  · simp -dsimp -implicitDefEqProofs only [pick_nil, pick_cons, look_nil, look_cons, dropB_nil, dropB_cons, inD_nil, inD_cons, inE_nil, inE_cons, or_t_l, or_f_l, Nat.reduceBEq, Nat.reduceDiv, Nat.reduceAdd, beq_self_eq_true, Bool.false_eq_true, Bool.or_false, ↓reduceIte, Nat.reduceEqDiff, List.cons_append, List.nil_append]
    simp -dsimp -implicitDefEqProofs only [go_sem, ↓reduceIte, Nat.reduceEqDiff, Nat.reduceLT, Nat.reduceAdd, Nat.reduceMul, Nat.reduceLeDiff, Nat.le_refl, Int.natCast_zero, Int.toNat_natCast, Int.reduceToNat, nlt_len]
    have h3 : xs = ys := by rw [← List.take_length (l := xs), hI, h1, List.take_length]
    simp [h3]
theorem c_sum (xs : List Int) (h : xs.length ≤ 1048576) (hx : ∀ x ∈ xs, -1000000 ≤ x ∧ x ≤ 1000000) : Fn Try.prog 32 [eIs xs] true (· = eI xs.sum) := by
  refine Fn.of_vcN 18 [.tmp 2] Try.func32 rfl rfl rfl rfl rfl (of_decide_eq_true rfl) ?_
  have hs : ∀ i, i ≤ xs.length → -1000000 * (i : Int) ≤ (xs.take i).sum ∧ (xs.take i).sum ≤ 1000000 * (i : Int) := by
    intro i
    induction i with
    | zero => intro _; simp
    | succ i ih =>
      intro hi
      have := ih (by omega)
      have h1 := hx xs[i] (List.getElem_mem (by omega))
      rw [List.take_succ_eq_append_getElem (by omega), List.sum_append]
      simp only [List.sum_cons, List.sum_nil]
      omega
  have hn : ∀ i (hi : i < xs.length), (xs.take (i + 1)).sum = (xs.take i).sum + xs[i] := by
    intro i hi
    rw [List.take_succ_eq_append_getElem hi, List.sum_append]; simp
  simp -dsimp -implicitDefEqProofs only [go_sem, ↓reduceIte, Nat.reduceEqDiff, Nat.reduceLT, Nat.reduceAdd, Nat.reduceMul, Nat.reduceLeDiff, Nat.le_refl, Int.natCast_zero, Int.toNat_natCast, Int.reduceToNat]
  refine Later.up [0] [7] [] xs.length (fun _ => True) (fun i => [(4, eI i), (3, eI (xs.take i).sum)]) (fun _ => []) trivial ?_ rfl (fun i hi _ => ?_) (fun _ => ?_)
  · simp -dsimp -implicitDefEqProofs only [go_sem, ↓reduceIte, Nat.reduceEqDiff, Nat.reduceLT, Nat.reduceAdd, Nat.reduceMul, Nat.reduceLeDiff, Nat.le_refl, Int.natCast_zero, Int.toNat_natCast, Int.reduceToNat]
    simp
  · simp -dsimp -implicitDefEqProofs only [pick_nil, pick_cons, look_nil, look_cons, dropB_nil, dropB_cons, inD_nil, inD_cons, inE_nil, inE_cons, or_t_l, or_f_l, Nat.reduceBEq, Nat.reduceDiv, Nat.reduceAdd, beq_self_eq_true, Bool.false_eq_true, Bool.or_false, ↓reduceIte, Nat.reduceEqDiff, List.cons_append, List.nil_append]
    have g1 := hs i (by omega)
    have g2 := hs (i + 1) (by omega)
    have g3 := hn i hi
    clear hs hn
    simp -dsimp -implicitDefEqProofs only [go_sem, ↓reduceIte, Nat.reduceEqDiff, Nat.reduceLT, Nat.reduceAdd, Nat.reduceMul, Nat.reduceLeDiff, Nat.le_refl, Int.natCast_zero, Int.toNat_natCast, Int.reduceToNat, lt_len hi, get_some hi]
    repeat' (with_reducible refine And.intro ?_ ?_)
    all_goals first
      | omega
      | (refine ⟨?_, ?_⟩ <;> omega)
      | (simp [g3]; done)
      | (rw [g3]; done)
      | (rw [g3]; simp; done)
      | trace_state
  · simp -dsimp -implicitDefEqProofs only [pick_nil, pick_cons, look_nil, look_cons, dropB_nil, dropB_cons, inD_nil, inD_cons, inE_nil, inE_cons, or_t_l, or_f_l, Nat.reduceBEq, Nat.reduceDiv, Nat.reduceAdd, beq_self_eq_true, Bool.false_eq_true, Bool.or_false, ↓reduceIte, Nat.reduceEqDiff, List.cons_append, List.nil_append]
    simp -dsimp -implicitDefEqProofs only [go_sem, ↓reduceIte, Nat.reduceEqDiff, Nat.reduceLT, Nat.reduceAdd, Nat.reduceMul, Nat.reduceLeDiff, Nat.le_refl, Int.natCast_zero, Int.toNat_natCast, Int.reduceToNat, nlt_len]
    simp
def seedAt (bs : List UInt8) : Nat → Int
  | 0 => 30011
  | i + 1 => (seedAt bs i * 67 + ((bs.getD i 0).toNat : Int)).tmod 2147483647
theorem seedAt_ok (bs : List UInt8) : ∀ i, 0 ≤ seedAt bs i ∧ seedAt bs i < 2147483647
  | 0 => by simp [seedAt]
  | i + 1 => by
    have h := seedAt_ok bs i
    exact tmod_in (by have := (bs.getD i 0).toNat_lt; omega) (by omega)
def src0 (bs : List UInt8) : Src := ⟨seedAt bs (min bs.length 64), 0⟩
theorem src0_ok (bs : List UInt8) : SrcOk (src0 bs) := seedAt_ok bs _
theorem seedAt_succ {bs : List UInt8} {i : Nat} (h : i < bs.length) : seedAt bs (i + 1) = (seedAt bs i * 67 + ((bs[i]).toNat : Int)).tmod 2147483647 := by
  rw [seedAt, List.getD_eq_getElem?_getD, List.getElem?_eq_getElem h]; rfl
end Go.Vc

/-
  Draws of cuts and of numbers of marks.
-/
set_option linter.unusedVariables false
set_option linter.unusedSimpArgs false
set_option linter.unnecessarySimpa false
namespace Go.Vc
open Go.Proofs
set_option maxRecDepth 100000
set_option maxHeartbeats 4000000
theorem sCallS_any {P : Program} {f : FuncId} {d : Nat} {xs ts : List AV} {m : Mem} {k : AV → Mem → Prop} {post : AV → Prop} (h : Fn P f ts false post) (hl : noLabs xs) (hk : ∀ r, post r → k r m) {q : Pack k} : sCallT P f d xs ts m k q :=
  .inr ⟨false, _, h, fun _ => hl, fun r hr => hk r hr⟩
structure MkB (m : MkM) : Prop where
  c : 0 ≤ m.chambers ∧ m.chambers ≤ 7
  d : 0 ≤ m.depths ∧ m.depths ≤ 9
  s : 0 ≤ m.step ∧ m.step ≤ 9
  a : 0 ≤ m.same ∧ m.same ≤ 9
  l : 0 ≤ m.least ∧ m.least ≤ 9
theorem pk3_in {bs : List UInt8} {a b c lo hi : Int} {s : Src} (h : SrcOk s) (ha : lo ≤ a ∧ a ≤ hi) (hb : lo ≤ b ∧ b ≤ hi) (hc : lo ≤ c ∧ c ≤ hi) : lo ≤ (pk bs [a, b, c] s).1 ∧ (pk bs [a, b, c] s).1 ≤ hi := by
  have := pk_mem bs h (xs := [a, b, c]) (by simp)
  simp only [List.mem_cons, List.not_mem_nil, or_false] at this
  rcases this with h | h | h <;> omega
theorem mkD_bnd (bs : List UInt8) {s : Src} (h : SrcOk s) : MkB (mkD bs s).1 := by
  obtain ⟨hv, hm, hc4, hd4⟩ := mkV_ok bs h
  obtain ⟨⟨m1, m2⟩, m3, m4⟩ := isMk_num hm
  have m5 := isMk_same hm
  have hs : 1 ≤ (mkV bs s).1.step ∧ (mkV bs s).1.step ≤ (mkV bs s).1.depths - 1 ∧ 1 ≤ (mkV bs s).1.least ∧ (mkV bs s).1.least ≤ 8 := by
    simp only [isMk, isIn, Bool.and_eq_true, decide_eq_true_eq] at hm
    have := hm.2
    split at this <;> omega
  have hn := (nx_ok bs 30 hv).2.2.2
  dsimp only [mkD]
  generalize mkV bs s = v at *
  generalize nx bs 30 v.2 = n at *
  have h2 := nx_ok bs 2 hn
  have h3 := nx_ok bs 2 h2.2.2.2
  have x1 := h2.2.2.1 (by omega)
  have x2 := h3.2.2.1 (by omega)
  have x3 := h2.1
  have x4 := h3.1
  generalize nx bs 2 (nx bs 2 n.2).2 = z at *
  generalize nx bs 2 n.2 = y at *
  clear h2 h3
  repeat' split
  all_goals (constructor <;> dsimp only <;> first | omega | exact pk3_in hn (by omega) (by omega) (by omega) | trace_state)
def visD (bs : List UInt8) (s : Src) : Int × Src :=
  if (nx bs 16 s).1 = 0 then pk bs [0, 6, 7, -1] (nx bs 16 s).2 else (1 + (nx bs 4 (nx bs 16 s).2).1, (nx bs 4 (nx bs 16 s).2).2)
theorem visD_ok (bs : List UInt8) {s : Src} (h : SrcOk s) : SrcOk (visD bs s).2 ∧ -1 ≤ (visD bs s).1 ∧ (visD bs s).1 ≤ 7 := by
  have h1 := (nx_ok bs 16 h).2.2.2
  have h2 := nx_ok bs 4 h1
  unfold visD
  split
  · refine ⟨pk_ok _ _ h1, ?_⟩
    have := pk_mem bs h1 (xs := [0, 6, 7, -1]) (by simp)
    simp only [List.mem_cons, List.not_mem_nil, or_false] at this
    rcases this with h | h | h | h <;> omega
  · have := h2.2.2.1 (by omega)
    exact ⟨h2.2.2.2, by dsimp only; omega, by dsimp only; omega⟩
theorem c_l33DrawVisible (v : Nat) (bs : List UInt8) (s : Src) (h : SrcOk s) (hl : bs.length ≤ 4096) :
    FnM Try.prog 80 [srcB v bs s] [.ptr 1000000000 v 0 0] (fun x io => x = eI (visD bs s).1 ∧ io = [srcB v bs (visD bs s).2]) := by
  refine FnM.of_vcN 12 [.tmp 2] Try.func80 rfl rfl rfl rfl rfl (of_decide_eq_true rfl) ?_
  have h1 := nx_ok bs 16 h
  have q1 := fun v => c_l01Next v bs 16 _ h hl
  unfold visD
  generalize nx bs 16 s = a at *
  have h2 := nx_ok bs 4 h1.2.2.2
  have q2 := fun v => c_l01Next v bs 4 _ h1.2.2.2 hl
  have qp := fun v v2 => c_l01Pick v v2 true bs [0, 6, 7, -1] _ a.2 rfl (by simp) (by simp) h1.2.2.2 hl
  generalize nx bs 4 a.2 = b at *
  generalize pk bs [0, 6, 7, -1] a.2 = c at *
  have h3 := h2.2.2.1 (by omega)
  simp -dsimp -implicitDefEqProofs only [go_sem, ↓reduceIte, Nat.reduceEqDiff, Nat.reduceLT, Nat.reduceAdd, Nat.reduceMul, Nat.reduceLeDiff, Nat.le_refl, Int.natCast_zero, Int.toNat_natCast, Int.reduceToNat]
  (refine sCallT_io [1000000000] ?_; simp -dsimp -implicitDefEqProofs only [go_sem, ↓reduceIte, Nat.reduceEqDiff, Nat.reduceLT, Nat.reduceAdd, Nat.reduceMul, Nat.reduceLeDiff, Nat.le_refl, Int.natCast_zero, Int.toNat_natCast, Int.reduceToNat]; refine sCallM_one (q1 _) ?_; simp -dsimp -implicitDefEqProofs only [go_sem, ↓reduceIte, Nat.reduceEqDiff, Nat.reduceLT, Nat.reduceAdd, Nat.reduceMul, Nat.reduceLeDiff, Nat.le_refl, Int.natCast_zero, Int.toNat_natCast, Int.reduceToNat])
  rcases b0 : (a.1 == 0) with _ | _
  · have e0 : ¬ a.1 = 0 := beq_eq_false_iff_ne.1 b0
    rw [if_neg e0]
    simp -dsimp -implicitDefEqProofs only [go_sem, ↓reduceIte, Nat.reduceEqDiff, Nat.reduceLT, Nat.reduceAdd, Nat.reduceMul, Nat.reduceLeDiff, Nat.le_refl, Int.natCast_zero, Int.toNat_natCast, Int.reduceToNat, b0]
    (refine sCallT_io [1000000000] ?_; simp -dsimp -implicitDefEqProofs only [go_sem, ↓reduceIte, Nat.reduceEqDiff, Nat.reduceLT, Nat.reduceAdd, Nat.reduceMul, Nat.reduceLeDiff, Nat.le_refl, Int.natCast_zero, Int.toNat_natCast, Int.reduceToNat]; refine sCallM_one (q2 _) ?_; simp -dsimp -implicitDefEqProofs only [go_sem, ↓reduceIte, Nat.reduceEqDiff, Nat.reduceLT, Nat.reduceAdd, Nat.reduceMul, Nat.reduceLeDiff, Nat.le_refl, Int.natCast_zero, Int.toNat_natCast, Int.reduceToNat])
    exact ⟨by omega, by omega⟩
  · have e0 : a.1 = 0 := beq_iff_eq.1 b0
    rw [if_pos e0]
    simp -dsimp -implicitDefEqProofs only [go_sem, ↓reduceIte, Nat.reduceEqDiff, Nat.reduceLT, Nat.reduceAdd, Nat.reduceMul, Nat.reduceLeDiff, Nat.le_refl, Int.natCast_zero, Int.toNat_natCast, Int.reduceToNat, b0]
    (refine sCallT_io [1000000000, 7] ?_; simp -dsimp -implicitDefEqProofs only [go_sem, ↓reduceIte, Nat.reduceEqDiff, Nat.reduceLT, Nat.reduceAdd, Nat.reduceMul, Nat.reduceLeDiff, Nat.le_refl, Int.natCast_zero, Int.toNat_natCast, Int.reduceToNat]; refine sCallM_one (qp _ _) ?_; simp -dsimp -implicitDefEqProofs only [go_sem, ↓reduceIte, Nat.reduceEqDiff, Nat.reduceLT, Nat.reduceAdd, Nat.reduceMul, Nat.reduceLeDiff, Nat.le_refl, Int.natCast_zero, Int.toNat_natCast, Int.reduceToNat])
/-- cuts that are drawn: those so far, the next one, the source -/
structure CSt where
  cuts : List Int
  at' : Int
  src : Src
def cutSt (bs : List UInt8) (m : MkM) (p : CSt) : CSt :=
  ⟨p.cuts ++ [p.at'],
   if (nx bs 24 (nx bs (2 * (if m.step > 0 then m.step else 0) + 1) p.src).2).1 > 0 then
     (if (if p.at' + (nx bs (2 * (if m.step > 0 then m.step else 0) + 1) p.src).1 - m.step < m.depths - 1 then p.at' + (nx bs (2 * (if m.step > 0 then m.step else 0) + 1) p.src).1 - m.step else m.depths - 1) > 0 then
       (if p.at' + (nx bs (2 * (if m.step > 0 then m.step else 0) + 1) p.src).1 - m.step < m.depths - 1 then p.at' + (nx bs (2 * (if m.step > 0 then m.step else 0) + 1) p.src).1 - m.step else m.depths - 1) else 0)
   else p.at' + (nx bs (2 * (if m.step > 0 then m.step else 0) + 1) p.src).1 - m.step,
   (nx bs 24 (nx bs (2 * (if m.step > 0 then m.step else 0) + 1) p.src).2).2⟩
def cutsN (bs : List UInt8) (m : MkM) (p : CSt) : Nat → CSt
  | 0 => p
  | i + 1 => cutSt bs m (cutsN bs m p i)
theorem cutsN_ok {bs : List UInt8} {m : MkM} (hm : MkB m) {p : CSt} (h : SrcOk p.src) (h2 : p.cuts = []) (h3 : 0 ≤ p.at' ∧ p.at' ≤ 9) : ∀ i, SrcOk (cutsN bs m p i).src ∧ (cutsN bs m p i).cuts.length = i ∧ -20 - 20 * (i : Int) ≤ (cutsN bs m p i).at' ∧ (cutsN bs m p i).at' ≤ 20 + 20 * (i : Int)
  | 0 => ⟨h, by rw [cutsN, h2]; rfl, by simp only [cutsN]; omega, by simp only [cutsN]; omega⟩
  | i + 1 => by
    obtain ⟨g1, g2, g3, g4⟩ := cutsN_ok hm h h2 h3 i (bs := bs)
    simp only [cutsN, cutSt]
    generalize cutsN bs m p i = q at *
    have hm1 := hm.s
    have hm2 := hm.d
    have hst : 0 ≤ 2 * (if m.step > 0 then m.step else 0) + 1 ∧ 2 * (if m.step > 0 then m.step else 0) + 1 ≤ 19 := by split <;> omega
    generalize 2 * (if m.step > 0 then m.step else 0) + 1 = W at *
    have n1 := nx_ok bs W g1
    have n2 : (nx bs W q.src).1 ≤ 19 := by
      by_cases hw : W ≤ 1
      · have := n1.2.1 hw; omega
      · have := n1.2.2.1 (by omega); omega
    generalize nx bs W q.src = a at *
    have n3 := nx_ok bs 24 n1.2.2.2
    generalize nx bs 24 a.2 = b at *
    refine ⟨n3.2.2.2, by simp [g2], ?_, ?_⟩ <;> (repeat' split) <;> omega
def cutsE (bs : List UInt8) (p : CSt) : List Int × Src := if (nx bs 24 p.src).1 = 0 then (p.cuts ++ [0], (nx bs 24 p.src).2) else (p.cuts, (nx bs 24 p.src).2)
def chD (m : MkM) : Int := if m.chambers < 8 then m.chambers else 8
def cutsD (bs : List UInt8) (m : MkM) (s : Src) : List Int × Src :=
  cutsE bs (cutsN bs m ⟨[], (nx bs (if m.depths > 1 then m.depths else 1) s).1, (nx bs (if m.depths > 1 then m.depths else 1) s).2⟩ (chD m).toNat)
theorem cutsE_ok {bs : List UInt8} {p : CSt} (h : SrcOk p.src) : SrcOk (cutsE bs p).2 ∧ (cutsE bs p).1.length ≤ p.cuts.length + 1 := by
  have := (nx_ok bs 24 h).2.2.2
  unfold cutsE
  split
  · exact ⟨this, by simp⟩
  · exact ⟨this, by dsimp only; omega⟩
theorem cuts0_ok {bs : List UInt8} {m : MkM} {s : Src} (hm : MkB m) (h : SrcOk s) : SrcOk (nx bs (if m.depths > 1 then m.depths else 1) s).2 ∧ 0 ≤ (nx bs (if m.depths > 1 then m.depths else 1) s).1 ∧ (nx bs (if m.depths > 1 then m.depths else 1) s).1 ≤ 9 := by
  have hd := hm.d
  have hw : (if m.depths > 1 then m.depths else 1) ≤ 9 := by split <;> omega
  generalize (if m.depths > 1 then m.depths else 1) = W at *
  have hn := nx_ok bs W h
  refine ⟨hn.2.2.2, hn.1, ?_⟩
  by_cases h1 : W ≤ 1
  · have := hn.2.1 h1; omega
  · have := hn.2.2.1 (by omega); omega
theorem cutsD_ok {bs : List UInt8} {m : MkM} {s : Src} (hm : MkB m) (h : SrcOk s) : SrcOk (cutsD bs m s).2 ∧ (cutsD bs m s).1.length ≤ 8 := by
  have h0 := cuts0_ok (bs := bs) hm h
  obtain ⟨h1, h2, _⟩ := cutsN_ok (bs := bs) hm (p := ⟨[], (nx bs (if m.depths > 1 then m.depths else 1) s).1, (nx bs (if m.depths > 1 then m.depths else 1) s).2⟩) h0.1 rfl h0.2 (chD m).toNat
  have h3 := cutsE_ok (bs := bs) h1
  have h4 : (chD m).toNat ≤ 7 := by have := hm.c; unfold chD; split <;> omega
  unfold cutsD
  exact ⟨h3.1, by omega⟩
theorem c_l02DrawCuts (v : Nat) (bs : List UInt8) (m : MkM) (s : Src) (hm : MkB m) (h : SrcOk s) (hl : bs.length ≤ 4096) :
    FnM Try.prog 95 [srcB v bs s] [.ptr 1000000000 v 0 0, eMk m] (fun x io => x = eIs (cutsD bs m s).1 ∧ io = [srcB v bs (cutsD bs m s).2]) := by
  refine FnM.of_vcN 53 [.tmp 4] Try.func95 rfl rfl rfl rfl rfl (of_decide_eq_true rfl) ?_
  have hc := hm.c
  have hd := hm.d
  have hs := hm.s
  have h0 := cuts0_ok (bs := bs) hm h
  have q0 := fun v => c_l01Next v bs (if m.depths > 1 then m.depths else 1) _ h hl
  unfold cutsD
  generalize nx bs (if m.depths > 1 then m.depths else 1) s = a at *
  have hcn := cutsN_ok (bs := bs) hm (p := ⟨[], a.1, a.2⟩) h0.1 rfl h0.2
  have hch : 0 ≤ chD m ∧ chD m ≤ 7 := by unfold chD; split <;> omega
  simp -dsimp -implicitDefEqProofs only [go_sem, ↓reduceIte, Nat.reduceEqDiff, Nat.reduceLT, Nat.reduceAdd, Nat.reduceMul, Nat.reduceLeDiff, Nat.le_refl, Int.natCast_zero, Int.toNat_natCast, Int.reduceToNat]
  (refine sCallT_io [1000000000] ?_; simp -dsimp -implicitDefEqProofs only [go_sem, ↓reduceIte, Nat.reduceEqDiff, Nat.reduceLT, Nat.reduceAdd, Nat.reduceMul, Nat.reduceLeDiff, Nat.le_refl, Int.natCast_zero, Int.toNat_natCast, Int.reduceToNat]; refine sCallM_one (q0 _) ?_; simp -dsimp -implicitDefEqProofs only [go_sem, ↓reduceIte, Nat.reduceEqDiff, Nat.reduceLT, Nat.reduceAdd, Nat.reduceMul, Nat.reduceLeDiff, Nat.le_refl, Int.natCast_zero, Int.toNat_natCast, Int.reduceToNat])
  refine Later.up [0, 3] [17, 23, 24, 29, 32, 38, 44, 45] [8, 1000000000] (chD m).toNat (fun _ => True) (fun i => [(7, eI i), (6, eI (cutsN bs m ⟨[], a.1, a.2⟩ i).at'), (5, .ref 8 0 0 i)]) (fun i => [(8, .row 0 ⟨1, false⟩ true ((cutsN bs m ⟨[], a.1, a.2⟩ i).cuts.map eI)), (1000000000, srcB v bs (cutsN bs m ⟨[], a.1, a.2⟩ i).src)]) trivial ?_ rfl (fun i hi _ => ?_) (fun _ => ?_)
  · simp -dsimp -implicitDefEqProofs only [go_sem, ↓reduceIte, Nat.reduceEqDiff, Nat.reduceLT, Nat.reduceAdd, Nat.reduceMul, Nat.reduceLeDiff, Nat.le_refl, Int.natCast_zero, Int.toNat_natCast, Int.reduceToNat, cutsN]
  · obtain ⟨g1, g2, g3, g4⟩ := hcn i
    have hlt : decide ((i : Int) < chD m) = true := decide_eq_true (by omega)
    unfold chD at hlt
    clear hcn
    simp only [cutsN, cutSt]
    generalize cutsN bs m ⟨[], a.1, a.2⟩ i = q at *
    have htk : List.take i (List.map eI q.cuts) = List.map eI q.cuts := List.take_of_length_le (by simp; omega)
    have hst : 0 ≤ 2 * (if m.step > 0 then m.step else 0) + 1 ∧ 2 * (if m.step > 0 then m.step else 0) + 1 ≤ 19 := by split <;> omega
    have n1 := nx_ok bs (2 * (if m.step > 0 then m.step else 0) + 1) g1
    have q1 := fun v => c_l01Next v bs (2 * (if m.step > 0 then m.step else 0) + 1) _ g1 hl
    have n2 : (nx bs (2 * (if m.step > 0 then m.step else 0) + 1) q.src).1 ≤ 19 := by
      by_cases hw : (2 * (if m.step > 0 then m.step else 0) + 1) ≤ 1
      · have := n1.2.1 hw; omega
      · have := n1.2.2.1 (by omega); omega
    generalize nx bs (2 * (if m.step > 0 then m.step else 0) + 1) q.src = b at *
    have n3 := nx_ok bs 24 n1.2.2.2
    have q2 := fun v => c_l01Next v bs 24 _ n1.2.2.2 hl
    generalize nx bs 24 b.2 = c at *
    simp -dsimp -implicitDefEqProofs only [pick_nil, pick_cons, look_nil, look_cons, dropB_nil, dropB_cons, inD_nil, inD_cons, inE_nil, inE_cons, or_t_l, or_f_l, Nat.reduceBEq, Nat.reduceDiv, Nat.reduceAdd, beq_self_eq_true, Bool.false_eq_true, Bool.or_false, ↓reduceIte, Nat.reduceEqDiff, List.cons_append, List.nil_append]
    simp -dsimp -implicitDefEqProofs only [go_sem, ↓reduceIte, Nat.reduceEqDiff, Nat.reduceLT, Nat.reduceAdd, Nat.reduceMul, Nat.reduceLeDiff, Nat.le_refl, Int.natCast_zero, Int.toNat_natCast, Int.reduceToNat, hlt, htk]
    ((repeat' (with_reducible refine And.intro ?_ ?_)); all_goals try (first | omega | (refine ⟨?_, ?_⟩ <;> omega) | (exact rfl)))
    refine Later.draw mixed rfl ?_
    simp -dsimp -implicitDefEqProofs only [go_sem, ↓reduceIte, Nat.reduceEqDiff, Nat.reduceLT, Nat.reduceAdd, Nat.reduceMul, Nat.reduceLeDiff, Nat.le_refl, Int.natCast_zero, Int.toNat_natCast, Int.reduceToNat]
    ((repeat' (with_reducible refine And.intro ?_ ?_)); all_goals try (first | omega | (refine ⟨?_, ?_⟩ <;> omega) | (exact rfl)))
    refine sCallX_io [1000000000] rfl ?_
    simp -dsimp -implicitDefEqProofs only [go_sem, ↓reduceIte, Nat.reduceEqDiff, Nat.reduceLT, Nat.reduceAdd, Nat.reduceMul, Nat.reduceLeDiff, Nat.le_refl, Int.natCast_zero, Int.toNat_natCast, Int.reduceToNat]
    refine sCallMX_one (q1 _) ?_
    simp -dsimp -implicitDefEqProofs only [go_sem, ↓reduceIte, Nat.reduceEqDiff, Nat.reduceLT, Nat.reduceAdd, Nat.reduceMul, Nat.reduceLeDiff, Nat.le_refl, Int.natCast_zero, Int.toNat_natCast, Int.reduceToNat]
    ((repeat' (with_reducible refine And.intro ?_ ?_)); all_goals try (first | omega | (refine ⟨?_, ?_⟩ <;> omega) | (exact rfl)))
    (refine sCallT_io [1000000000] ?_; simp -dsimp -implicitDefEqProofs only [go_sem, ↓reduceIte, Nat.reduceEqDiff, Nat.reduceLT, Nat.reduceAdd, Nat.reduceMul, Nat.reduceLeDiff, Nat.le_refl, Int.natCast_zero, Int.toNat_natCast, Int.reduceToNat]; refine sCallM_one (q2 _) ?_; simp -dsimp -implicitDefEqProofs only [go_sem, ↓reduceIte, Nat.reduceEqDiff, Nat.reduceLT, Nat.reduceAdd, Nat.reduceMul, Nat.reduceLeDiff, Nat.le_refl, Int.natCast_zero, Int.toNat_natCast, Int.reduceToNat])
    rcases b0 : decide (c.1 > 0) with _ | _
    · rw [if_neg (of_decide_eq_false b0)]
      simp -dsimp -implicitDefEqProofs only [go_sem, ↓reduceIte, Nat.reduceEqDiff, Nat.reduceLT, Nat.reduceAdd, Nat.reduceMul, Nat.reduceLeDiff, Nat.le_refl, Int.natCast_zero, Int.toNat_natCast, Int.reduceToNat, b0]
      ((repeat' (with_reducible refine And.intro ?_ ?_)); all_goals try (first | omega | (refine ⟨?_, ?_⟩ <;> omega) | (exact rfl)))
      all_goals (simp; done)
    · rw [if_pos (of_decide_eq_true b0)]
      simp -dsimp -implicitDefEqProofs only [go_sem, ↓reduceIte, Nat.reduceEqDiff, Nat.reduceLT, Nat.reduceAdd, Nat.reduceMul, Nat.reduceLeDiff, Nat.le_refl, Int.natCast_zero, Int.toNat_natCast, Int.reduceToNat, b0]
      ((repeat' (with_reducible refine And.intro ?_ ?_)); all_goals try (first | omega | (refine ⟨?_, ?_⟩ <;> omega) | (exact rfl)))
      all_goals (simp; done)
  · obtain ⟨g1, g2, g3, g4⟩ := hcn (chD m).toNat
    have hlt : decide (((chD m).toNat : Int) < chD m) = false := decide_eq_false (by omega)
    generalize hW : chD m = W at *
    unfold chD at hW
    clear hcn
    generalize cutsN bs m ⟨[], a.1, a.2⟩ W.toNat = q at *
    unfold cutsE
    have n3 := nx_ok bs 24 g1
    have q2 := fun v => c_l01Next v bs 24 _ g1 hl
    generalize nx bs 24 q.src = c at *
    simp -dsimp -implicitDefEqProofs only [pick_nil, pick_cons, look_nil, look_cons, dropB_nil, dropB_cons, inD_nil, inD_cons, inE_nil, inE_cons, or_t_l, or_f_l, Nat.reduceBEq, Nat.reduceDiv, Nat.reduceAdd, beq_self_eq_true, Bool.false_eq_true, Bool.or_false, ↓reduceIte, Nat.reduceEqDiff, List.cons_append, List.nil_append]
    simp -dsimp -implicitDefEqProofs only [go_sem, ↓reduceIte, Nat.reduceEqDiff, Nat.reduceLT, Nat.reduceAdd, Nat.reduceMul, Nat.reduceLeDiff, Nat.le_refl, Int.natCast_zero, Int.toNat_natCast, Int.reduceToNat, hlt, hW]
    (refine sCallT_io [1000000000] ?_; simp -dsimp -implicitDefEqProofs only [go_sem, ↓reduceIte, Nat.reduceEqDiff, Nat.reduceLT, Nat.reduceAdd, Nat.reduceMul, Nat.reduceLeDiff, Nat.le_refl, Int.natCast_zero, Int.toNat_natCast, Int.reduceToNat]; refine sCallM_one (q2 _) ?_; simp -dsimp -implicitDefEqProofs only [go_sem, ↓reduceIte, Nat.reduceEqDiff, Nat.reduceLT, Nat.reduceAdd, Nat.reduceMul, Nat.reduceLeDiff, Nat.le_refl, Int.natCast_zero, Int.toNat_natCast, Int.reduceToNat])
    rcases b0 : (c.1 == 0) with _ | _
    · rw [if_neg (beq_eq_false_iff_ne.1 b0)]
      simp -dsimp -implicitDefEqProofs only [go_sem, ↓reduceIte, Nat.reduceEqDiff, Nat.reduceLT, Nat.reduceAdd, Nat.reduceMul, Nat.reduceLeDiff, Nat.le_refl, Int.natCast_zero, Int.toNat_natCast, Int.reduceToNat, b0]
      ((repeat' (with_reducible refine And.intro ?_ ?_)); all_goals try (first | omega | (refine ⟨?_, ?_⟩ <;> omega) | (exact rfl)))
      all_goals first | (simp; done) | (rw [List.take_of_length_le (l := List.map eI q.cuts) (by simp; omega)]; try (rw [List.take_of_length_le (by simp; omega)]; simp))
    · rw [if_pos (beq_iff_eq.1 b0)]
      simp -dsimp -implicitDefEqProofs only [go_sem, ↓reduceIte, Nat.reduceEqDiff, Nat.reduceLT, Nat.reduceAdd, Nat.reduceMul, Nat.reduceLeDiff, Nat.le_refl, Int.natCast_zero, Int.toNat_natCast, Int.reduceToNat, b0]
      ((repeat' (with_reducible refine And.intro ?_ ?_)); all_goals try (first | omega | (refine ⟨?_, ?_⟩ <;> omega) | (exact rfl)))
      all_goals first | (simp; done) | (rw [List.take_of_length_le (l := List.map eI q.cuts) (by simp; omega)]; try (rw [List.take_of_length_le (by simp; omega)]; simp))
end Go.Vc

/-
  Contracts of the functions on makers and locks.
-/
set_option linter.unusedVariables false
set_option linter.unusedSimpArgs false
set_option linter.unnecessarySimpa false
namespace Go.Vc
open Go.Proofs
set_option maxRecDepth 100000
def lockSet (m : MkM) (xs : List Int) : Bool := decide (xs.length ≠ 0) && rises xs m.depths
def isLk0 (m : MkM) (l : List (List Int)) : Bool := ((l.length : Int) == m.chambers) && l.all (lockSet m)
def isLk (m : MkM) (l : List (List Int)) : Bool := isMk m && isLk0 m l
theorem c_sIsLock (m : MkM) (l : List (List Int)) (h : l.length ≤ 1048576) (h2 : ∀ x ∈ l, x.length ≤ 1048576) : Fn Try.prog 88 [eMk m, eLk l] true (· = eB (isLk m l)) := by
  refine Fn.of_vcN 42 [.tmp 4] Try.func88 rfl rfl rfl rfl rfl (of_decide_eq_true rfl) ?_
  simp -dsimp -implicitDefEqProofs only [go_sem, ↓reduceIte, Nat.reduceEqDiff, Nat.reduceLT, Nat.reduceAdd, Nat.reduceMul, Nat.reduceLeDiff, Nat.le_refl, Int.natCast_zero, Int.toNat_natCast, Int.reduceToNat]
  repeat' first
    | (refine Br.intro (fun _ => ?_) (fun _ => ?_) <;> try simp -dsimp -implicitDefEqProofs only [go_sem, ↓reduceIte, Nat.reduceEqDiff, Nat.reduceLT, Nat.reduceAdd, Nat.reduceMul, Nat.reduceLeDiff, Nat.le_refl, Int.natCast_zero, Int.toNat_natCast, Int.reduceToNat, *])
    | (with_reducible refine And.intro ?_ ?_)
    | (refine sCallT_one (c_sIsMaker _) ?_; try simp -dsimp -implicitDefEqProofs only [go_sem, ↓reduceIte, Nat.reduceEqDiff, Nat.reduceLT, Nat.reduceAdd, Nat.reduceMul, Nat.reduceLeDiff, Nat.le_refl, Int.natCast_zero, Int.toNat_natCast, Int.reduceToNat, *])
  all_goals try (first | omega | (simp_all [isLk, isLk0]; done))
  refine Later.up [2, 3] [20, 29, 39] [] l.length (fun i => (l.take i).all (lockSet m)) (fun i => [(5, eI i)]) (fun _ => []) (by simp) ?_ rfl (fun i hi hI => ?_) (fun hI => ?_)
  · simp -dsimp -implicitDefEqProofs only [go_sem, ↓reduceIte, Nat.reduceEqDiff, Nat.reduceLT, Nat.reduceAdd, Nat.reduceMul, Nat.reduceLeDiff, Nat.le_refl, Int.natCast_zero, Int.toNat_natCast, Int.reduceToNat]
  · simp -dsimp -implicitDefEqProofs only [pick_nil, pick_cons, look_nil, look_cons, dropB_nil, dropB_cons, inD_nil, inD_cons, inE_nil, inE_cons, or_t_l, or_f_l, Nat.reduceBEq, Nat.reduceDiv, Nat.reduceAdd, beq_self_eq_true, Bool.false_eq_true, Bool.or_false, ↓reduceIte, Nat.reduceEqDiff, List.cons_append, List.nil_append]
    have gi := get_some hi
    have li := lt_len hi
    have no : lockSet m l[i] = false → isLk m l = false := fun h => by simp [isLk, isLk0, lockSet, all_no (p := lockSet m) hi h]
    have yes : lockSet m l[i] = true → ((l.take (i + 1)).all (lockSet m)) = true := fun h => by rw [all_take _ _ _ hi, hI]; simpa using h
    simp -dsimp -implicitDefEqProofs only [go_sem, ↓reduceIte, Nat.reduceEqDiff, Nat.reduceLT, Nat.reduceAdd, Nat.reduceMul, Nat.reduceLeDiff, Nat.le_refl, Int.natCast_zero, Int.toNat_natCast, Int.reduceToNat, li, gi]
    repeat' first
      | (refine Br.intro (fun _ => ?_) (fun _ => ?_) <;> try simp -dsimp -implicitDefEqProofs only [go_sem, ↓reduceIte, Nat.reduceEqDiff, Nat.reduceLT, Nat.reduceAdd, Nat.reduceMul, Nat.reduceLeDiff, Nat.le_refl, Int.natCast_zero, Int.toNat_natCast, Int.reduceToNat, *])
      | (with_reducible refine And.intro ?_ ?_)
      | (refine sCallT_one (c_l01Rises l[i] _ (by have := h2 l[i] (List.getElem_mem hi); omega)) ?_; try simp -dsimp -implicitDefEqProofs only [go_sem, ↓reduceIte, Nat.reduceEqDiff, Nat.reduceLT, Nat.reduceAdd, Nat.reduceMul, Nat.reduceLeDiff, Nat.le_refl, Int.natCast_zero, Int.toNat_natCast, Int.reduceToNat, *])
      | (refine sCallX_one (c_l01Rises l[i] _ (by have := h2 l[i] (List.getElem_mem hi); omega)) ?_; try simp -dsimp -implicitDefEqProofs only [go_sem, ↓reduceIte, Nat.reduceEqDiff, Nat.reduceLT, Nat.reduceAdd, Nat.reduceMul, Nat.reduceLeDiff, Nat.le_refl, Int.natCast_zero, Int.toNat_natCast, Int.reduceToNat, *])
      | (refine Later.draw mixed rfl ?_; try simp -dsimp -implicitDefEqProofs only [go_sem, ↓reduceIte, Nat.reduceEqDiff, Nat.reduceLT, Nat.reduceAdd, Nat.reduceMul, Nat.reduceLeDiff, Nat.le_refl, Int.natCast_zero, Int.toNat_natCast, Int.reduceToNat, *])
    all_goals first
      | omega
      | (refine ⟨?_, ?_⟩ <;> omega)
      | (simp; done)
      | rfl
      | (rw [no]; clear no yes; simp_all [isLk, isLk0, lockSet]; done) | (rw [no]; clear no yes; simp_all [isLk, isLk0, lockSet]; omega) | (refine yes ?_; clear no yes; simp_all [isLk, isLk0, lockSet]; done) | (refine yes ?_; clear no yes; simp_all [isLk, isLk0, lockSet]; omega)
      | trace_state
  · simp -dsimp -implicitDefEqProofs only [pick_nil, pick_cons, look_nil, look_cons, dropB_nil, dropB_cons, inD_nil, inD_cons, inE_nil, inE_cons, or_t_l, or_f_l, Nat.reduceBEq, Nat.reduceDiv, Nat.reduceAdd, beq_self_eq_true, Bool.false_eq_true, Bool.or_false, ↓reduceIte, Nat.reduceEqDiff, List.cons_append, List.nil_append]
    simp -dsimp -implicitDefEqProofs only [go_sem, ↓reduceIte, Nat.reduceEqDiff, Nat.reduceLT, Nat.reduceAdd, Nat.reduceMul, Nat.reduceLeDiff, Nat.le_refl, Int.natCast_zero, Int.toNat_natCast, Int.reduceToNat, nlt_len]
    rw [List.take_length] at hI
    first
      | (simp_all [isLk, isLk0]; done)
      | (simp_all [isLk, isLk0]; omega)
      | trace_state
theorem c_isLock (m : MkM) (l : List (List Int)) (h : l.length ≤ 1048576) (h2 : ∀ x ∈ l, x.length ≤ 1048576) : Fn Try.prog 127 [eMk m, eLk l] true (· = eB (isLk0 m l)) := by
  refine Fn.of_vcN 31 [.tmp 4] Try.func127 rfl rfl rfl rfl rfl (of_decide_eq_true rfl) ?_
  simp -dsimp -implicitDefEqProofs only [go_sem, ↓reduceIte, Nat.reduceEqDiff, Nat.reduceLT, Nat.reduceAdd, Nat.reduceMul, Nat.reduceLeDiff, Nat.le_refl, Int.natCast_zero, Int.toNat_natCast, Int.reduceToNat]
  refine Later.up [2, 3, 8, 9] [15, 21] [] l.length (fun i => (l.take i).all (lockSet m)) (fun i => [(10, eI i)]) (fun _ => []) (by simp) ?_ rfl (fun i hi hI => ?_) (fun hI => ?_)
  · simp -dsimp -implicitDefEqProofs only [go_sem, ↓reduceIte, Nat.reduceEqDiff, Nat.reduceLT, Nat.reduceAdd, Nat.reduceMul, Nat.reduceLeDiff, Nat.le_refl, Int.natCast_zero, Int.toNat_natCast, Int.reduceToNat]
  · simp -dsimp -implicitDefEqProofs only [pick_nil, pick_cons, look_nil, look_cons, dropB_nil, dropB_cons, inD_nil, inD_cons, inE_nil, inE_cons, or_t_l, or_f_l, Nat.reduceBEq, Nat.reduceDiv, Nat.reduceAdd, beq_self_eq_true, Bool.false_eq_true, Bool.or_false, ↓reduceIte, Nat.reduceEqDiff, List.cons_append, List.nil_append]
    have gi := get_some hi
    have li := lt_len hi
    have no : lockSet m l[i] = false → isLk0 m l = false := fun h => by simp [isLk0, lockSet, all_no (p := lockSet m) hi h]
    have yes : lockSet m l[i] = true → ((l.take (i + 1)).all (lockSet m)) = true := fun h => by rw [all_take _ _ _ hi, hI]; simpa using h
    simp -dsimp -implicitDefEqProofs only [go_sem, ↓reduceIte, Nat.reduceEqDiff, Nat.reduceLT, Nat.reduceAdd, Nat.reduceMul, Nat.reduceLeDiff, Nat.le_refl, Int.natCast_zero, Int.toNat_natCast, Int.reduceToNat, li, gi]
    repeat' first
      | (refine Br.intro (fun _ => ?_) (fun _ => ?_) <;> try simp -dsimp -implicitDefEqProofs only [go_sem, ↓reduceIte, Nat.reduceEqDiff, Nat.reduceLT, Nat.reduceAdd, Nat.reduceMul, Nat.reduceLeDiff, Nat.le_refl, Int.natCast_zero, Int.toNat_natCast, Int.reduceToNat, *])
      | (with_reducible refine And.intro ?_ ?_)
      | (refine sCallT_one (c_IsRising l[i] _ (by have := h2 l[i] (List.getElem_mem hi); omega)) ?_; try simp -dsimp -implicitDefEqProofs only [go_sem, ↓reduceIte, Nat.reduceEqDiff, Nat.reduceLT, Nat.reduceAdd, Nat.reduceMul, Nat.reduceLeDiff, Nat.le_refl, Int.natCast_zero, Int.toNat_natCast, Int.reduceToNat, *])
      | (refine sCallX_one (c_IsRising l[i] _ (by have := h2 l[i] (List.getElem_mem hi); omega)) ?_; try simp -dsimp -implicitDefEqProofs only [go_sem, ↓reduceIte, Nat.reduceEqDiff, Nat.reduceLT, Nat.reduceAdd, Nat.reduceMul, Nat.reduceLeDiff, Nat.le_refl, Int.natCast_zero, Int.toNat_natCast, Int.reduceToNat, *])
      | (refine Later.draw mixed rfl ?_; try simp -dsimp -implicitDefEqProofs only [go_sem, ↓reduceIte, Nat.reduceEqDiff, Nat.reduceLT, Nat.reduceAdd, Nat.reduceMul, Nat.reduceLeDiff, Nat.le_refl, Int.natCast_zero, Int.toNat_natCast, Int.reduceToNat, *])
    all_goals first
      | omega
      | (refine ⟨?_, ?_⟩ <;> omega)
      | (simp; done)
      | rfl
      | (rw [no]; clear no yes; simp_all [isLk0, lockSet]; done) | (rw [no]; clear no yes; simp_all [isLk0, lockSet]; omega) | (refine yes ?_; clear no yes; simp_all [isLk0, lockSet]; done) | (refine yes ?_; clear no yes; simp_all [isLk0, lockSet]; omega)
      | trace_state
  · simp -dsimp -implicitDefEqProofs only [pick_nil, pick_cons, look_nil, look_cons, dropB_nil, dropB_cons, inD_nil, inD_cons, inE_nil, inE_cons, or_t_l, or_f_l, Nat.reduceBEq, Nat.reduceDiv, Nat.reduceAdd, beq_self_eq_true, Bool.false_eq_true, Bool.or_false, ↓reduceIte, Nat.reduceEqDiff, List.cons_append, List.nil_append]
    simp -dsimp -implicitDefEqProofs only [go_sem, ↓reduceIte, Nat.reduceEqDiff, Nat.reduceLT, Nat.reduceAdd, Nat.reduceMul, Nat.reduceLeDiff, Nat.le_refl, Int.natCast_zero, Int.toNat_natCast, Int.reduceToNat, nlt_len]
    rw [List.take_length] at hI
    first
      | (simp_all [isLk, isLk0]; done)
      | (simp_all [isLk, isLk0]; omega)
      | trace_state
def lkCodes (m : MkM) (ls : List (List (List Int))) : Int := if isMk m && ls.all (isLk0 m) then 0 else 1
theorem lkCodes_no {m : MkM} {ls : List (List (List Int))} {i : Nat} (hi : i < ls.length) (h : isLk0 m ls[i] = false) : lkCodes m ls = 1 := by
  rw [lkCodes, all_no hi h]; simp
theorem lkCodes_one (m : MkM) (l : List (List Int)) : lkCodes m [l] = if isLk m l then 0 else 1 := by simp [lkCodes, isLk]
theorem c_locksCode (m : MkM) (ls : List (List (List Int))) (h0 : ls.length ≤ 1048576) (h : ∀ l ∈ ls, l.length ≤ 1048576 ∧ ∀ x ∈ l, x.length ≤ 1048576) : Fn Try.prog 81 [eMk m, .arr ⟨1, true⟩ (ls.map eLk)] true (· = eI (lkCodes m ls)) := by
  refine Fn.of_vcN 21 [.tmp 4] Try.func81 rfl rfl rfl rfl rfl (of_decide_eq_true rfl) ?_
  simp -dsimp -implicitDefEqProofs only [go_sem, ↓reduceIte, Nat.reduceEqDiff, Nat.reduceLT, Nat.reduceAdd, Nat.reduceMul, Nat.reduceLeDiff, Nat.le_refl, Int.natCast_zero, Int.toNat_natCast, Int.reduceToNat]
  repeat' first
    | (refine Br.intro (fun _ => ?_) (fun _ => ?_) <;> try simp -dsimp -implicitDefEqProofs only [go_sem, ↓reduceIte, Nat.reduceEqDiff, Nat.reduceLT, Nat.reduceAdd, Nat.reduceMul, Nat.reduceLeDiff, Nat.le_refl, Int.natCast_zero, Int.toNat_natCast, Int.reduceToNat, *])
    | (with_reducible refine And.intro ?_ ?_)
    | (refine sCallT_one (c_iIsMaker _) ?_; try simp -dsimp -implicitDefEqProofs only [go_sem, ↓reduceIte, Nat.reduceEqDiff, Nat.reduceLT, Nat.reduceAdd, Nat.reduceMul, Nat.reduceLeDiff, Nat.le_refl, Int.natCast_zero, Int.toNat_natCast, Int.reduceToNat, *])
  all_goals try (first | omega | (simp_all [lkCodes]; done))
  refine Later.up [2, 10, 11] [6, 18] [] ls.length (fun i => (ls.take i).all (isLk0 m)) (fun i => [(12, eI i)]) (fun _ => []) (by simp) ?_ rfl (fun i hi hI => ?_) (fun hI => ?_)
  · simp -dsimp -implicitDefEqProofs only [go_sem, ↓reduceIte, Nat.reduceEqDiff, Nat.reduceLT, Nat.reduceAdd, Nat.reduceMul, Nat.reduceLeDiff, Nat.le_refl, Int.natCast_zero, Int.toNat_natCast, Int.reduceToNat]
  · have hx := h ls[i] (List.getElem_mem hi)
    have no := fun h => lkCodes_no (m := m) hi h
    have yes : isLk0 m ls[i] = true → ((ls.take (i + 1)).all (isLk0 m)) = true := fun h => by rw [all_take _ _ _ hi, hI, h]; rfl
    simp -dsimp -implicitDefEqProofs only [pick_nil, pick_cons, look_nil, look_cons, dropB_nil, dropB_cons, inD_nil, inD_cons, inE_nil, inE_cons, or_t_l, or_f_l, Nat.reduceBEq, Nat.reduceDiv, Nat.reduceAdd, beq_self_eq_true, Bool.false_eq_true, Bool.or_false, ↓reduceIte, Nat.reduceEqDiff, List.cons_append, List.nil_append]
    simp -dsimp -implicitDefEqProofs only [go_sem, ↓reduceIte, Nat.reduceEqDiff, Nat.reduceLT, Nat.reduceAdd, Nat.reduceMul, Nat.reduceLeDiff, Nat.le_refl, Int.natCast_zero, Int.toNat_natCast, Int.reduceToNat, lt_len hi, get_some hi]
    repeat' first
      | (refine Br.intro (fun _ => ?_) (fun _ => ?_) <;> try simp -dsimp -implicitDefEqProofs only [go_sem, ↓reduceIte, Nat.reduceEqDiff, Nat.reduceLT, Nat.reduceAdd, Nat.reduceMul, Nat.reduceLeDiff, Nat.le_refl, Int.natCast_zero, Int.toNat_natCast, Int.reduceToNat, *])
      | (with_reducible refine And.intro ?_ ?_)
      | (refine sCallT_one (c_isLock m ls[i] hx.1 hx.2) ?_; try simp -dsimp -implicitDefEqProofs only [go_sem, ↓reduceIte, Nat.reduceEqDiff, Nat.reduceLT, Nat.reduceAdd, Nat.reduceMul, Nat.reduceLeDiff, Nat.le_refl, Int.natCast_zero, Int.toNat_natCast, Int.reduceToNat, *])
    all_goals first
      | omega
      | (refine ⟨?_, ?_⟩ <;> omega)
      | (simp; done)
      | (rw [no]; clear no yes; simp_all []; done) | (rw [no]; clear no yes; simp_all []; omega) | (refine yes ?_; clear no yes; simp_all []; done) | (refine yes ?_; clear no yes; simp_all []; omega)
      | trace_state
  · simp -dsimp -implicitDefEqProofs only [pick_nil, pick_cons, look_nil, look_cons, dropB_nil, dropB_cons, inD_nil, inD_cons, inE_nil, inE_cons, or_t_l, or_f_l, Nat.reduceBEq, Nat.reduceDiv, Nat.reduceAdd, beq_self_eq_true, Bool.false_eq_true, Bool.or_false, ↓reduceIte, Nat.reduceEqDiff, List.cons_append, List.nil_append]
    simp -dsimp -implicitDefEqProofs only [go_sem, ↓reduceIte, Nat.reduceEqDiff, Nat.reduceLT, Nat.reduceAdd, Nat.reduceMul, Nat.reduceLeDiff, Nat.le_refl, Int.natCast_zero, Int.toNat_natCast, Int.reduceToNat, nlt_len]
    rw [List.take_length] at hI
    first
      | (simp_all [lkCodes]; done)
      | trace_state
def isCuts (m : MkM) (d : List Int) : Bool := ((d.length : Int) == m.chambers) && d.all fun x => isIn x 0 (m.depths - 1)
theorem c_l02Cuts (m : MkM) (d : List Int) (h : d.length ≤ 1048576) (hm : 2 ≤ m.depths ∧ m.depths ≤ 8) : Fn Try.prog 132 [eMk m, eIs d] true (· = eB (isCuts m d)) := by
  refine Fn.of_vcN 26 [.tmp 4] Try.func132 rfl rfl rfl rfl rfl (of_decide_eq_true rfl) ?_
  simp -dsimp -implicitDefEqProofs only [go_sem, ↓reduceIte, Nat.reduceEqDiff, Nat.reduceLT, Nat.reduceAdd, Nat.reduceMul, Nat.reduceLeDiff, Nat.le_refl, Int.natCast_zero, Int.toNat_natCast, Int.reduceToNat]
  refine Later.up [1, 2] [8, 19] [] d.length (fun i => (d.take i).all (fun x => isIn x 0 (m.depths - 1))) (fun i => [(5, eI i)]) (fun _ => []) (by simp) ?_ rfl (fun i hi hI => ?_) (fun hI => ?_)
  · simp -dsimp -implicitDefEqProofs only [go_sem, ↓reduceIte, Nat.reduceEqDiff, Nat.reduceLT, Nat.reduceAdd, Nat.reduceMul, Nat.reduceLeDiff, Nat.le_refl, Int.natCast_zero, Int.toNat_natCast, Int.reduceToNat]
  · simp -dsimp -implicitDefEqProofs only [pick_nil, pick_cons, look_nil, look_cons, dropB_nil, dropB_cons, inD_nil, inD_cons, inE_nil, inE_cons, or_t_l, or_f_l, Nat.reduceBEq, Nat.reduceDiv, Nat.reduceAdd, beq_self_eq_true, Bool.false_eq_true, Bool.or_false, ↓reduceIte, Nat.reduceEqDiff, List.cons_append, List.nil_append]
    have gi := get_some hi
    have li := lt_len hi
    have no : isIn d[i] 0 (m.depths - 1) = false → isCuts m d = false := fun h => by simp [isCuts, all_no (p := fun x => isIn x 0 (m.depths - 1)) hi h]
    have yes : isIn d[i] 0 (m.depths - 1) = true → ((d.take (i + 1)).all (fun x => isIn x 0 (m.depths - 1))) = true := fun h => by rw [all_take _ _ _ hi, hI]; simpa using h
    simp -dsimp -implicitDefEqProofs only [go_sem, ↓reduceIte, Nat.reduceEqDiff, Nat.reduceLT, Nat.reduceAdd, Nat.reduceMul, Nat.reduceLeDiff, Nat.le_refl, Int.natCast_zero, Int.toNat_natCast, Int.reduceToNat, li, gi]
    repeat' first
      | (refine Br.intro (fun _ => ?_) (fun _ => ?_) <;> try simp -dsimp -implicitDefEqProofs only [go_sem, ↓reduceIte, Nat.reduceEqDiff, Nat.reduceLT, Nat.reduceAdd, Nat.reduceMul, Nat.reduceLeDiff, Nat.le_refl, Int.natCast_zero, Int.toNat_natCast, Int.reduceToNat, *])
      | (with_reducible refine And.intro ?_ ?_)
      | (refine sCallT_one (c_l01In _ _ _) ?_; try simp -dsimp -implicitDefEqProofs only [go_sem, ↓reduceIte, Nat.reduceEqDiff, Nat.reduceLT, Nat.reduceAdd, Nat.reduceMul, Nat.reduceLeDiff, Nat.le_refl, Int.natCast_zero, Int.toNat_natCast, Int.reduceToNat, *])
      | (refine sCallX_one (c_l01In _ _ _) ?_; try simp -dsimp -implicitDefEqProofs only [go_sem, ↓reduceIte, Nat.reduceEqDiff, Nat.reduceLT, Nat.reduceAdd, Nat.reduceMul, Nat.reduceLeDiff, Nat.le_refl, Int.natCast_zero, Int.toNat_natCast, Int.reduceToNat, *])
      | (refine Later.draw mixed rfl ?_; try simp -dsimp -implicitDefEqProofs only [go_sem, ↓reduceIte, Nat.reduceEqDiff, Nat.reduceLT, Nat.reduceAdd, Nat.reduceMul, Nat.reduceLeDiff, Nat.le_refl, Int.natCast_zero, Int.toNat_natCast, Int.reduceToNat, *])
    all_goals first
      | omega
      | (refine ⟨?_, ?_⟩ <;> omega)
      | (simp; done)
      | rfl
      | (rw [no]; clear no yes; simp_all [isCuts]; done) | (rw [no]; clear no yes; simp_all [isCuts]; omega) | (refine yes ?_; clear no yes; simp_all [isCuts]; done) | (refine yes ?_; clear no yes; simp_all [isCuts]; omega)
      | trace_state
  · simp -dsimp -implicitDefEqProofs only [pick_nil, pick_cons, look_nil, look_cons, dropB_nil, dropB_cons, inD_nil, inD_cons, inE_nil, inE_cons, or_t_l, or_f_l, Nat.reduceBEq, Nat.reduceDiv, Nat.reduceAdd, beq_self_eq_true, Bool.false_eq_true, Bool.or_false, ↓reduceIte, Nat.reduceEqDiff, List.cons_append, List.nil_append]
    simp -dsimp -implicitDefEqProofs only [go_sem, ↓reduceIte, Nat.reduceEqDiff, Nat.reduceLT, Nat.reduceAdd, Nat.reduceMul, Nat.reduceLeDiff, Nat.le_refl, Int.natCast_zero, Int.toNat_natCast, Int.reduceToNat, nlt_len]
    rw [List.take_length] at hI
    first
      | (simp_all [isCuts]; done)
      | (simp_all [isCuts]; omega)
      | trace_state
theorem c_areCuts (m : MkM) (d : List Int) (h : d.length ≤ 1048576) (hm : 2 ≤ m.depths ∧ m.depths ≤ 8) : Fn Try.prog 131 [eMk m, eIs d] true (· = eB (isCuts m d)) := by
  refine Fn.of_vcN 17 [.tmp 4] Try.func131 rfl rfl rfl rfl rfl (of_decide_eq_true rfl) ?_
  simp -dsimp -implicitDefEqProofs only [go_sem, ↓reduceIte, Nat.reduceEqDiff, Nat.reduceLT, Nat.reduceAdd, Nat.reduceMul, Nat.reduceLeDiff, Nat.le_refl, Int.natCast_zero, Int.toNat_natCast, Int.reduceToNat]
  repeat' first
    | (refine Br.intro (fun _ => ?_) (fun _ => ?_) <;> try simp -dsimp -implicitDefEqProofs only [go_sem, ↓reduceIte, Nat.reduceEqDiff, Nat.reduceLT, Nat.reduceAdd, Nat.reduceMul, Nat.reduceLeDiff, Nat.le_refl, Int.natCast_zero, Int.toNat_natCast, Int.reduceToNat, *])
    | (with_reducible refine And.intro ?_ ?_)
    | (refine sCallT_one (c_allWithin _ _ _ (by omega)) ?_; try simp -dsimp -implicitDefEqProofs only [go_sem, ↓reduceIte, Nat.reduceEqDiff, Nat.reduceLT, Nat.reduceAdd, Nat.reduceMul, Nat.reduceLeDiff, Nat.le_refl, Int.natCast_zero, Int.toNat_natCast, Int.reduceToNat, *])
  all_goals first
    | omega
    | (refine ⟨?_, ?_⟩ <;> omega)
    | (simp_all [isCuts, I64]; done)
    | (simp_all [isCuts, I64]; omega)
    | trace_state
end Go.Vc

/-
  Contracts of the functions on impressions: marks, spoilt chambers, blanks.
-/
set_option linter.unusedVariables false
set_option linter.unusedSimpArgs false
set_option linter.unnecessarySimpa false
namespace Go.Vc
open Go.Proofs
set_option maxRecDepth 100000
theorem isLk_dep {m : MkM} {l : List (List Int)} (h : isLk m l = true) : 2 ≤ m.depths ∧ m.depths ≤ 8 := by
  simp only [isLk, Bool.and_eq_true] at h
  exact (isMk_num h.1).2
theorem isLk_len {m : MkM} {l : List (List Int)} (h : isLk m l = true) : (l.length : Int) = m.chambers ∧ l.length ≤ 6 := by
  simp only [isLk, isLk0, Bool.and_eq_true, beq_iff_eq] at h
  have := (isMk_num h.1).1
  exact ⟨h.2.1, by omega⟩
theorem rises_at {xs : List Int} {n : Int} (h : rises xs n = true) {j : Nat} (hj : j < xs.length) : 0 ≤ xs[j] ∧ xs[j] < n ∧ (0 < j → xs.getD (j - 1) 0 < xs[j]) := by
  have := List.all_eq_true.1 h j (List.mem_range.2 hj)
  simp only [riseAt, Bool.and_eq_true, decide_eq_true_eq, Bool.or_eq_true, beq_iff_eq] at this
  have e : xs.getD j 0 = xs[j] := by simp [List.getD_eq_getElem?_getD, hj]
  rw [e] at this
  exact ⟨this.1.1, this.1.2, fun h0 => this.2.resolve_left (by omega)⟩
theorem isLk_set {m : MkM} {l : List (List Int)} (h : isLk m l = true) {i : Nat} (hi : i < l.length) : 0 < l[i].length ∧ rises l[i] m.depths = true := by
  simp only [isLk, isLk0, Bool.and_eq_true] at h
  have := List.all_eq_true.1 h.2.2 _ (List.getElem_mem hi)
  simp only [lockSet, Bool.and_eq_true, decide_eq_true_eq] at this
  exact ⟨by omega, this.2⟩
theorem isCuts_len {m : MkM} {l : List (List Int)} {d : List Int} (h : isLk m l = true) (hc : isCuts m d = true) : d.length = l.length := by
  have := isLk_len h
  simp only [isCuts, Bool.and_eq_true, beq_iff_eq] at hc
  omega
def lkCode (m : MkM) (l : List (List Int)) : Int := if isLk m l then 0 else 1
theorem c_locksCode1 (m : MkM) (l : List (List Int)) (h : l.length ≤ 1048576) (h2 : ∀ x ∈ l, x.length ≤ 1048576) : Fn Try.prog 81 [eMk m, .arr ⟨1, true⟩ [eLk l]] true (· = eI (lkCode m l)) := by
  have := c_locksCode m [l] (by simp) (fun x hx => by
    have : x = l := by simpa using hx
    subst this; exact ⟨h, h2⟩)
  rw [lkCodes_one] at this
  exact this
def impCode (m : MkM) (l : List (List Int)) (d : List Int) : Int := if isLk m l then (if isCuts m d then 0 else 2) else 1
def depCode (m : MkM) (l : List (List Int)) (d : List Int) (v : Int) : Int := if isLk m l then (if isCuts m d && isIn v 1 6 then 0 else 2) else 1
theorem depCode_one (m : MkM) (l : List (List Int)) (d : List Int) : depCode m l d 1 = impCode m l d := by simp [depCode, impCode, isIn]
theorem c_l33Code (m : MkM) (l : List (List Int)) (d : List Int) (h : l.length ≤ 1048576) (h2 : ∀ x ∈ l, x.length ≤ 1048576) (hd : d.length ≤ 1048576) : Fn Try.prog 96 [eMk m, eLk l, eIs d] true (· = eI (impCode m l d)) := by
  refine Fn.of_vcN 15 [.tmp 6] Try.func96 rfl rfl rfl rfl rfl (of_decide_eq_true rfl) ?_
  rcases hb : isLk m l with _ | _
  · simp -dsimp -implicitDefEqProofs only [go_sem, ↓reduceIte, Nat.reduceEqDiff, Nat.reduceLT, Nat.reduceAdd, Nat.reduceMul, Nat.reduceLeDiff, Nat.le_refl, Int.natCast_zero, Int.toNat_natCast, Int.reduceToNat]
    repeat' first
    | (refine Br.intro (fun _ => ?_) (fun _ => ?_) <;> try simp -dsimp -implicitDefEqProofs only [go_sem, ↓reduceIte, Nat.reduceEqDiff, Nat.reduceLT, Nat.reduceAdd, Nat.reduceMul, Nat.reduceLeDiff, Nat.le_refl, Int.natCast_zero, Int.toNat_natCast, Int.reduceToNat, *])
    | (with_reducible refine And.intro ?_ ?_)
    | (refine sCallT_one (c_sIsLock m l h h2) ?_; try simp -dsimp -implicitDefEqProofs only [go_sem, ↓reduceIte, Nat.reduceEqDiff, Nat.reduceLT, Nat.reduceAdd, Nat.reduceMul, Nat.reduceLeDiff, Nat.le_refl, Int.natCast_zero, Int.toNat_natCast, Int.reduceToNat, *])
    | (refine sCallT_one (c_locksCode1 m l h h2) ?_; try simp -dsimp -implicitDefEqProofs only [go_sem, ↓reduceIte, Nat.reduceEqDiff, Nat.reduceLT, Nat.reduceAdd, Nat.reduceMul, Nat.reduceLeDiff, Nat.le_refl, Int.natCast_zero, Int.toNat_natCast, Int.reduceToNat, *])
    all_goals first
      | omega | (refine ⟨?_, ?_⟩ <;> omega) | (simp; done) | (simp; omega)
      | rfl
      | (simp_all [impCode, lkCode]; done)
      | trace_state
  · have hm := isLk_dep hb
    have hn := isLk_len hb
    simp -dsimp -implicitDefEqProofs only [go_sem, ↓reduceIte, Nat.reduceEqDiff, Nat.reduceLT, Nat.reduceAdd, Nat.reduceMul, Nat.reduceLeDiff, Nat.le_refl, Int.natCast_zero, Int.toNat_natCast, Int.reduceToNat]
    repeat' first
    | (refine Br.intro (fun _ => ?_) (fun _ => ?_) <;> try simp -dsimp -implicitDefEqProofs only [go_sem, ↓reduceIte, Nat.reduceEqDiff, Nat.reduceLT, Nat.reduceAdd, Nat.reduceMul, Nat.reduceLeDiff, Nat.le_refl, Int.natCast_zero, Int.toNat_natCast, Int.reduceToNat, *])
    | (with_reducible refine And.intro ?_ ?_)
    | (refine sCallT_one (c_sIsLock m l h h2) ?_; try simp -dsimp -implicitDefEqProofs only [go_sem, ↓reduceIte, Nat.reduceEqDiff, Nat.reduceLT, Nat.reduceAdd, Nat.reduceMul, Nat.reduceLeDiff, Nat.le_refl, Int.natCast_zero, Int.toNat_natCast, Int.reduceToNat, *])
    | (refine sCallT_one (c_locksCode1 m l h h2) ?_; try simp -dsimp -implicitDefEqProofs only [go_sem, ↓reduceIte, Nat.reduceEqDiff, Nat.reduceLT, Nat.reduceAdd, Nat.reduceMul, Nat.reduceLeDiff, Nat.le_refl, Int.natCast_zero, Int.toNat_natCast, Int.reduceToNat, *])
    | (refine sCallT_one (c_l02Cuts m d hd hm) ?_; try simp -dsimp -implicitDefEqProofs only [go_sem, ↓reduceIte, Nat.reduceEqDiff, Nat.reduceLT, Nat.reduceAdd, Nat.reduceMul, Nat.reduceLeDiff, Nat.le_refl, Int.natCast_zero, Int.toNat_natCast, Int.reduceToNat, *])
    | (refine sCallX_one (c_l02Cuts m d hd hm) ?_; try simp -dsimp -implicitDefEqProofs only [go_sem, ↓reduceIte, Nat.reduceEqDiff, Nat.reduceLT, Nat.reduceAdd, Nat.reduceMul, Nat.reduceLeDiff, Nat.le_refl, Int.natCast_zero, Int.toNat_natCast, Int.reduceToNat, *])
    | (refine Later.draw mixed rfl ?_; try simp -dsimp -implicitDefEqProofs only [go_sem, ↓reduceIte, Nat.reduceEqDiff, Nat.reduceLT, Nat.reduceAdd, Nat.reduceMul, Nat.reduceLeDiff, Nat.le_refl, Int.natCast_zero, Int.toNat_natCast, Int.reduceToNat, *])
    all_goals first
      | omega | (refine ⟨?_, ?_⟩ <;> omega) | (simp; done) | (simp; omega)
      | rfl
      | (simp_all [impCode, lkCode]; done)
      | (simp_all [impCode, lkCode]; omega)
      | trace_state
theorem c_depthsCode (m : MkM) (l : List (List Int)) (d : List Int) (v : Int) (h : l.length ≤ 1048576) (h2 : ∀ x ∈ l, x.length ≤ 1048576) (hd : d.length ≤ 1048576) : Fn Try.prog 94 [eMk m, eLk l, eIs d, eI v] true (· = eI (depCode m l d v)) := by
  refine Fn.of_vcN 26 [.tmp 8] Try.func94 rfl rfl rfl rfl rfl (of_decide_eq_true rfl) ?_
  rcases hb : isLk m l with _ | _
  · simp -dsimp -implicitDefEqProofs only [go_sem, ↓reduceIte, Nat.reduceEqDiff, Nat.reduceLT, Nat.reduceAdd, Nat.reduceMul, Nat.reduceLeDiff, Nat.le_refl, Int.natCast_zero, Int.toNat_natCast, Int.reduceToNat]
    repeat' first
    | (refine Br.intro (fun _ => ?_) (fun _ => ?_) <;> try simp -dsimp -implicitDefEqProofs only [go_sem, ↓reduceIte, Nat.reduceEqDiff, Nat.reduceLT, Nat.reduceAdd, Nat.reduceMul, Nat.reduceLeDiff, Nat.le_refl, Int.natCast_zero, Int.toNat_natCast, Int.reduceToNat, *])
    | (with_reducible refine And.intro ?_ ?_)
    | (refine sCallT_one (c_sIsLock m l h h2) ?_; try simp -dsimp -implicitDefEqProofs only [go_sem, ↓reduceIte, Nat.reduceEqDiff, Nat.reduceLT, Nat.reduceAdd, Nat.reduceMul, Nat.reduceLeDiff, Nat.le_refl, Int.natCast_zero, Int.toNat_natCast, Int.reduceToNat, *])
    | (refine sCallT_one (c_locksCode1 m l h h2) ?_; try simp -dsimp -implicitDefEqProofs only [go_sem, ↓reduceIte, Nat.reduceEqDiff, Nat.reduceLT, Nat.reduceAdd, Nat.reduceMul, Nat.reduceLeDiff, Nat.le_refl, Int.natCast_zero, Int.toNat_natCast, Int.reduceToNat, *])
    all_goals first
      | omega | (refine ⟨?_, ?_⟩ <;> omega) | (simp; done) | (simp; omega)
      | rfl
      | (simp_all [depCode, lkCode]; done)
      | trace_state
  · have hm := isLk_dep hb
    have hn := isLk_len hb
    simp -dsimp -implicitDefEqProofs only [go_sem, ↓reduceIte, Nat.reduceEqDiff, Nat.reduceLT, Nat.reduceAdd, Nat.reduceMul, Nat.reduceLeDiff, Nat.le_refl, Int.natCast_zero, Int.toNat_natCast, Int.reduceToNat]
    repeat' first
    | (refine Br.intro (fun _ => ?_) (fun _ => ?_) <;> try simp -dsimp -implicitDefEqProofs only [go_sem, ↓reduceIte, Nat.reduceEqDiff, Nat.reduceLT, Nat.reduceAdd, Nat.reduceMul, Nat.reduceLeDiff, Nat.le_refl, Int.natCast_zero, Int.toNat_natCast, Int.reduceToNat, *])
    | (with_reducible refine And.intro ?_ ?_)
    | (refine sCallT_one (c_sIsLock m l h h2) ?_; try simp -dsimp -implicitDefEqProofs only [go_sem, ↓reduceIte, Nat.reduceEqDiff, Nat.reduceLT, Nat.reduceAdd, Nat.reduceMul, Nat.reduceLeDiff, Nat.le_refl, Int.natCast_zero, Int.toNat_natCast, Int.reduceToNat, *])
    | (refine sCallT_one (c_locksCode1 m l h h2) ?_; try simp -dsimp -implicitDefEqProofs only [go_sem, ↓reduceIte, Nat.reduceEqDiff, Nat.reduceLT, Nat.reduceAdd, Nat.reduceMul, Nat.reduceLeDiff, Nat.le_refl, Int.natCast_zero, Int.toNat_natCast, Int.reduceToNat, *])
    | (refine sCallT_one (c_areCuts m d hd hm) ?_; try simp -dsimp -implicitDefEqProofs only [go_sem, ↓reduceIte, Nat.reduceEqDiff, Nat.reduceLT, Nat.reduceAdd, Nat.reduceMul, Nat.reduceLeDiff, Nat.le_refl, Int.natCast_zero, Int.toNat_natCast, Int.reduceToNat, *])
    | (refine sCallT_one (c_within _ _ _) ?_; try simp -dsimp -implicitDefEqProofs only [go_sem, ↓reduceIte, Nat.reduceEqDiff, Nat.reduceLT, Nat.reduceAdd, Nat.reduceMul, Nat.reduceLeDiff, Nat.le_refl, Int.natCast_zero, Int.toNat_natCast, Int.reduceToNat, *])
    | (refine sCallX_one (c_areCuts m d hd hm) ?_; try simp -dsimp -implicitDefEqProofs only [go_sem, ↓reduceIte, Nat.reduceEqDiff, Nat.reduceLT, Nat.reduceAdd, Nat.reduceMul, Nat.reduceLeDiff, Nat.le_refl, Int.natCast_zero, Int.toNat_natCast, Int.reduceToNat, *])
    | (refine sCallX_one (c_within _ _ _) ?_; try simp -dsimp -implicitDefEqProofs only [go_sem, ↓reduceIte, Nat.reduceEqDiff, Nat.reduceLT, Nat.reduceAdd, Nat.reduceMul, Nat.reduceLeDiff, Nat.le_refl, Int.natCast_zero, Int.toNat_natCast, Int.reduceToNat, *])
    | (refine Later.draw mixed rfl ?_; try simp -dsimp -implicitDefEqProofs only [go_sem, ↓reduceIte, Nat.reduceEqDiff, Nat.reduceLT, Nat.reduceAdd, Nat.reduceMul, Nat.reduceLeDiff, Nat.le_refl, Int.natCast_zero, Int.toNat_natCast, Int.reduceToNat, *])
    all_goals first
      | omega | (refine ⟨?_, ?_⟩ <;> omega) | (simp; done) | (simp; omega)
      | rfl
      | (simp_all [depCode, lkCode]; done)
      | (simp_all [depCode, lkCode]; omega)
      | trace_state
def marksAt (l : List (List Int)) (d : List Int) (i : Nat) : Bool := !has (l.getD i []) (d.getD i 0)
def marks (l : List (List Int)) (d : List Int) : List Int := flt (marksAt l d) d.length
theorem c_l33Marks (l : List (List Int)) (d : List Int) (hl : d.length ≤ l.length) (hd : d.length ≤ 1048576) (h2 : ∀ x ∈ l, x.length ≤ 1048576) : Fn Try.prog 85 [eLk l, eIs d] true (· = eIs (marks l d)) := by
  refine Fn.of_vcN 30 [.tmp 4] Try.func85 rfl rfl rfl rfl rfl (of_decide_eq_true rfl) ?_
  simp -dsimp -implicitDefEqProofs only [go_sem, ↓reduceIte, Nat.reduceEqDiff, Nat.reduceLT, Nat.reduceAdd, Nat.reduceMul, Nat.reduceLeDiff, Nat.le_refl, Int.natCast_zero, Int.toNat_natCast, Int.reduceToNat]
  repeat' (with_reducible refine And.intro ?_ ?_)
  all_goals try omega
  refine Later.up [1, 2] [10, 23, 27, 28] [7] d.length (fun _ => True) (fun i => [(6, eI i), (5, .ref 7 0 0 (flt (marksAt l d) i).length)]) (fun i => [(7, .row 0 ⟨1, false⟩ true ((flt (marksAt l d) i).map eI))]) trivial ?_ rfl (fun i hi _ => ?_) (fun _ => ?_)
  · simp -dsimp -implicitDefEqProofs only [go_sem, ↓reduceIte, Nat.reduceEqDiff, Nat.reduceLT, Nat.reduceAdd, Nat.reduceMul, Nat.reduceLeDiff, Nat.le_refl, Int.natCast_zero, Int.toNat_natCast, Int.reduceToNat, flt_zero]
    all_goals simp
  · have hi2 : i < l.length := by omega
    have hl := flt_len (marksAt l d) i
    have gi := get_some hi
    have gl := get_some hi2
    have li := lt_len hi
    have hx := h2 l[i] (List.getElem_mem hi2)
    have hs := flt_succ (marksAt l d) i
    have hp : marksAt l d i = (!has l[i] d[i]) := by simp [marksAt, List.getD_eq_getElem?_getD, hi, hi2]
    rw [hp] at hs
    clear hp
    simp -dsimp -implicitDefEqProofs only [pick_nil, pick_cons, look_nil, look_cons, dropB_nil, dropB_cons, inD_nil, inD_cons, inE_nil, inE_cons, or_t_l, or_f_l, Nat.reduceBEq, Nat.reduceDiv, Nat.reduceAdd, beq_self_eq_true, Bool.false_eq_true, Bool.or_false, ↓reduceIte, Nat.reduceEqDiff, List.cons_append, List.nil_append]
    rw [hs]
    clear hs
    simp -dsimp -implicitDefEqProofs only [go_sem, ↓reduceIte, Nat.reduceEqDiff, Nat.reduceLT, Nat.reduceAdd, Nat.reduceMul, Nat.reduceLeDiff, Nat.le_refl, Int.natCast_zero, Int.toNat_natCast, Int.reduceToNat, li, gi, gl]
    repeat' first
      | (refine Br.intro (fun _ => ?_) (fun _ => ?_) <;> try simp -dsimp -implicitDefEqProofs only [go_sem, ↓reduceIte, Nat.reduceEqDiff, Nat.reduceLT, Nat.reduceAdd, Nat.reduceMul, Nat.reduceLeDiff, Nat.le_refl, Int.natCast_zero, Int.toNat_natCast, Int.reduceToNat, *])
      | (with_reducible refine And.intro ?_ ?_)
      | (refine sCallT_one (c_l01Has l[i] d[i] hx) ?_; try simp -dsimp -implicitDefEqProofs only [go_sem, ↓reduceIte, Nat.reduceEqDiff, Nat.reduceLT, Nat.reduceAdd, Nat.reduceMul, Nat.reduceLeDiff, Nat.le_refl, Int.natCast_zero, Int.toNat_natCast, Int.reduceToNat, *])
      | (refine sCallX_one (c_l01Has l[i] d[i] hx) ?_; try simp -dsimp -implicitDefEqProofs only [go_sem, ↓reduceIte, Nat.reduceEqDiff, Nat.reduceLT, Nat.reduceAdd, Nat.reduceMul, Nat.reduceLeDiff, Nat.le_refl, Int.natCast_zero, Int.toNat_natCast, Int.reduceToNat, *])
      | (refine Later.draw mixed rfl ?_; try simp -dsimp -implicitDefEqProofs only [go_sem, ↓reduceIte, Nat.reduceEqDiff, Nat.reduceLT, Nat.reduceAdd, Nat.reduceMul, Nat.reduceLeDiff, Nat.le_refl, Int.natCast_zero, Int.toNat_natCast, Int.reduceToNat, *])
    all_goals first
      | omega | (refine ⟨?_, ?_⟩ <;> omega) | (simp; done) | (simp; omega)
      | rfl
      | (simp_all; done)
      | (simp_all; omega)
      | trace_state
  · have hl := flt_len (marksAt l d) d.length
    simp -dsimp -implicitDefEqProofs only [pick_nil, pick_cons, look_nil, look_cons, dropB_nil, dropB_cons, inD_nil, inD_cons, inE_nil, inE_cons, or_t_l, or_f_l, Nat.reduceBEq, Nat.reduceDiv, Nat.reduceAdd, beq_self_eq_true, Bool.false_eq_true, Bool.or_false, ↓reduceIte, Nat.reduceEqDiff, List.cons_append, List.nil_append]
    simp -dsimp -implicitDefEqProofs only [go_sem, ↓reduceIte, Nat.reduceEqDiff, Nat.reduceLT, Nat.reduceAdd, Nat.reduceMul, Nat.reduceLeDiff, Nat.le_refl, Int.natCast_zero, Int.toNat_natCast, Int.reduceToNat, nlt_len]
    repeat' (with_reducible refine And.intro ?_ ?_)
    all_goals first
      | omega | (refine ⟨?_, ?_⟩ <;> omega) | (simp; done) | (simp; omega)
      | rfl
      | (simp [marks]; done)
      | trace_state
theorem c_marksOf (l : List (List Int)) (d : List Int) (hl : d.length ≤ l.length) (hd : d.length ≤ 1048576) (h2 : ∀ x ∈ l, x.length ≤ 1048576) : Fn Try.prog 82 [eLk l, eIs d] true (· = eIs (marks l d)) := by
  refine Fn.of_vcN 30 [.tmp 4] Try.func82 rfl rfl rfl rfl rfl (of_decide_eq_true rfl) ?_
  simp -dsimp -implicitDefEqProofs only [go_sem, ↓reduceIte, Nat.reduceEqDiff, Nat.reduceLT, Nat.reduceAdd, Nat.reduceMul, Nat.reduceLeDiff, Nat.le_refl, Int.natCast_zero, Int.toNat_natCast, Int.reduceToNat]
  repeat' (with_reducible refine And.intro ?_ ?_)
  all_goals try omega
  refine Later.up [2, 9, 10] [22, 26, 27] [8] d.length (fun _ => True) (fun i => [(11, eI i), (5, .ref 8 0 0 (flt (marksAt l d) i).length)]) (fun i => [(8, .row 0 ⟨1, false⟩ true ((flt (marksAt l d) i).map eI))]) trivial ?_ rfl (fun i hi _ => ?_) (fun _ => ?_)
  · simp -dsimp -implicitDefEqProofs only [go_sem, ↓reduceIte, Nat.reduceEqDiff, Nat.reduceLT, Nat.reduceAdd, Nat.reduceMul, Nat.reduceLeDiff, Nat.le_refl, Int.natCast_zero, Int.toNat_natCast, Int.reduceToNat, flt_zero]
    all_goals simp
  · have hi2 : i < l.length := by omega
    have hl := flt_len (marksAt l d) i
    have gi := get_some hi
    have gl := get_some hi2
    have li := lt_len hi
    have hx := h2 l[i] (List.getElem_mem hi2)
    have hs := flt_succ (marksAt l d) i
    have hp : marksAt l d i = (!has l[i] d[i]) := by simp [marksAt, List.getD_eq_getElem?_getD, hi, hi2]
    rw [hp] at hs
    clear hp
    simp -dsimp -implicitDefEqProofs only [pick_nil, pick_cons, look_nil, look_cons, dropB_nil, dropB_cons, inD_nil, inD_cons, inE_nil, inE_cons, or_t_l, or_f_l, Nat.reduceBEq, Nat.reduceDiv, Nat.reduceAdd, beq_self_eq_true, Bool.false_eq_true, Bool.or_false, ↓reduceIte, Nat.reduceEqDiff, List.cons_append, List.nil_append]
    rw [hs]
    clear hs
    simp -dsimp -implicitDefEqProofs only [go_sem, ↓reduceIte, Nat.reduceEqDiff, Nat.reduceLT, Nat.reduceAdd, Nat.reduceMul, Nat.reduceLeDiff, Nat.le_refl, Int.natCast_zero, Int.toNat_natCast, Int.reduceToNat, li, gi, gl]
    repeat' first
      | (refine Br.intro (fun _ => ?_) (fun _ => ?_) <;> try simp -dsimp -implicitDefEqProofs only [go_sem, ↓reduceIte, Nat.reduceEqDiff, Nat.reduceLT, Nat.reduceAdd, Nat.reduceMul, Nat.reduceLeDiff, Nat.le_refl, Int.natCast_zero, Int.toNat_natCast, Int.reduceToNat, *])
      | (with_reducible refine And.intro ?_ ?_)
      | (refine sCallT_one (c_Contains l[i] d[i] hx) ?_; try simp -dsimp -implicitDefEqProofs only [go_sem, ↓reduceIte, Nat.reduceEqDiff, Nat.reduceLT, Nat.reduceAdd, Nat.reduceMul, Nat.reduceLeDiff, Nat.le_refl, Int.natCast_zero, Int.toNat_natCast, Int.reduceToNat, *])
      | (refine sCallX_one (c_Contains l[i] d[i] hx) ?_; try simp -dsimp -implicitDefEqProofs only [go_sem, ↓reduceIte, Nat.reduceEqDiff, Nat.reduceLT, Nat.reduceAdd, Nat.reduceMul, Nat.reduceLeDiff, Nat.le_refl, Int.natCast_zero, Int.toNat_natCast, Int.reduceToNat, *])
      | (refine Later.draw mixed rfl ?_; try simp -dsimp -implicitDefEqProofs only [go_sem, ↓reduceIte, Nat.reduceEqDiff, Nat.reduceLT, Nat.reduceAdd, Nat.reduceMul, Nat.reduceLeDiff, Nat.le_refl, Int.natCast_zero, Int.toNat_natCast, Int.reduceToNat, *])
    all_goals first
      | omega | (refine ⟨?_, ?_⟩ <;> omega) | (simp; done) | (simp; omega)
      | rfl
      | (simp_all; done)
      | (simp_all; omega)
      | trace_state
  · have hl := flt_len (marksAt l d) d.length
    simp -dsimp -implicitDefEqProofs only [pick_nil, pick_cons, look_nil, look_cons, dropB_nil, dropB_cons, inD_nil, inD_cons, inE_nil, inE_cons, or_t_l, or_f_l, Nat.reduceBEq, Nat.reduceDiv, Nat.reduceAdd, beq_self_eq_true, Bool.false_eq_true, Bool.or_false, ↓reduceIte, Nat.reduceEqDiff, List.cons_append, List.nil_append]
    simp -dsimp -implicitDefEqProofs only [go_sem, ↓reduceIte, Nat.reduceEqDiff, Nat.reduceLT, Nat.reduceAdd, Nat.reduceMul, Nat.reduceLeDiff, Nat.le_refl, Int.natCast_zero, Int.toNat_natCast, Int.reduceToNat, nlt_len]
    repeat' (with_reducible refine And.intro ?_ ?_)
    all_goals first
      | omega | (refine ⟨?_, ?_⟩ <;> omega) | (simp; done) | (simp; omega)
      | rfl
      | (simp [marks]; done)
      | trace_state
def spoiltAt (l : List (List Int)) (d : List Int) (i : Nat) : Bool := decide (d.getD i 0 > (l.getD i []).getD ((l.getD i []).length - 1) 0)
def spoilt (l : List (List Int)) (d : List Int) : List Int := flt (spoiltAt l d) d.length
theorem c_l33Spoilt (l : List (List Int)) (d : List Int) (hl : d.length ≤ l.length) (hd : d.length ≤ 1048576) (h2 : ∀ x ∈ l, x.length ≤ 1048576) (h0 : ∀ x ∈ l, 0 < x.length) : Fn Try.prog 98 [eLk l, eIs d] true (· = eIs (spoilt l d)) := by
  refine Fn.of_vcN 38 [.tmp 4] Try.func98 rfl rfl rfl rfl rfl (of_decide_eq_true rfl) ?_
  simp -dsimp -implicitDefEqProofs only [go_sem, ↓reduceIte, Nat.reduceEqDiff, Nat.reduceLT, Nat.reduceAdd, Nat.reduceMul, Nat.reduceLeDiff, Nat.le_refl, Int.natCast_zero, Int.toNat_natCast, Int.reduceToNat]
  repeat' (with_reducible refine And.intro ?_ ?_)
  all_goals try omega
  refine Later.up [1, 2] [10, 28, 35, 36] [7] d.length (fun _ => True) (fun i => [(6, eI i), (5, .ref 7 0 0 (flt (spoiltAt l d) i).length)]) (fun i => [(7, .row 0 ⟨1, false⟩ true ((flt (spoiltAt l d) i).map eI))]) trivial ?_ rfl (fun i hi _ => ?_) (fun _ => ?_)
  · simp -dsimp -implicitDefEqProofs only [go_sem, ↓reduceIte, Nat.reduceEqDiff, Nat.reduceLT, Nat.reduceAdd, Nat.reduceMul, Nat.reduceLeDiff, Nat.le_refl, Int.natCast_zero, Int.toNat_natCast, Int.reduceToNat, flt_zero]
    all_goals simp
  · have hi2 : i < l.length := by omega
    have hl := flt_len (spoiltAt l d) i
    have gi := get_some hi
    have gl := get_some hi2
    have li := lt_len hi
    have hx := h2 l[i] (List.getElem_mem hi2)
    have h0i := h0 l[i] (List.getElem_mem hi2)
    have hj : l[i].length - 1 < l[i].length := by omega
    have gj : l[i][((l[i].length : Int) - 1).toNat]? = some l[i][l[i].length - 1] := by rw [pred_toNat h0i]; exact get_some hj
    have hs := flt_succ (spoiltAt l d) i
    have hp : spoiltAt l d i = (decide (d[i] > l[i][l[i].length - 1])) := by simp [spoiltAt, List.getD_eq_getElem?_getD, hi, hi2, hj]
    rw [hp] at hs
    clear hp
    simp -dsimp -implicitDefEqProofs only [pick_nil, pick_cons, look_nil, look_cons, dropB_nil, dropB_cons, inD_nil, inD_cons, inE_nil, inE_cons, or_t_l, or_f_l, Nat.reduceBEq, Nat.reduceDiv, Nat.reduceAdd, beq_self_eq_true, Bool.false_eq_true, Bool.or_false, ↓reduceIte, Nat.reduceEqDiff, List.cons_append, List.nil_append]
    rw [hs]
    clear hs
    simp -dsimp -implicitDefEqProofs only [go_sem, ↓reduceIte, Nat.reduceEqDiff, Nat.reduceLT, Nat.reduceAdd, Nat.reduceMul, Nat.reduceLeDiff, Nat.le_refl, Int.natCast_zero, Int.toNat_natCast, Int.reduceToNat, li, gi, gl, gj]
    repeat' first
      | (refine Br.intro (fun _ => ?_) (fun _ => ?_) <;> try simp -dsimp -implicitDefEqProofs only [go_sem, ↓reduceIte, Nat.reduceEqDiff, Nat.reduceLT, Nat.reduceAdd, Nat.reduceMul, Nat.reduceLeDiff, Nat.le_refl, Int.natCast_zero, Int.toNat_natCast, Int.reduceToNat, *])
      | (with_reducible refine And.intro ?_ ?_)
      | (refine Later.draw mixed rfl ?_; try simp -dsimp -implicitDefEqProofs only [go_sem, ↓reduceIte, Nat.reduceEqDiff, Nat.reduceLT, Nat.reduceAdd, Nat.reduceMul, Nat.reduceLeDiff, Nat.le_refl, Int.natCast_zero, Int.toNat_natCast, Int.reduceToNat, *])
    all_goals first
      | omega | (refine ⟨?_, ?_⟩ <;> omega) | (simp; done) | (simp; omega)
      | rfl
      | (simp_all; done)
      | (simp_all; omega)
      | trace_state
  · have hl := flt_len (spoiltAt l d) d.length
    simp -dsimp -implicitDefEqProofs only [pick_nil, pick_cons, look_nil, look_cons, dropB_nil, dropB_cons, inD_nil, inD_cons, inE_nil, inE_cons, or_t_l, or_f_l, Nat.reduceBEq, Nat.reduceDiv, Nat.reduceAdd, beq_self_eq_true, Bool.false_eq_true, Bool.or_false, ↓reduceIte, Nat.reduceEqDiff, List.cons_append, List.nil_append]
    simp -dsimp -implicitDefEqProofs only [go_sem, ↓reduceIte, Nat.reduceEqDiff, Nat.reduceLT, Nat.reduceAdd, Nat.reduceMul, Nat.reduceLeDiff, Nat.le_refl, Int.natCast_zero, Int.toNat_natCast, Int.reduceToNat, nlt_len]
    repeat' (with_reducible refine And.intro ?_ ?_)
    all_goals first
      | omega | (refine ⟨?_, ?_⟩ <;> omega) | (simp; done) | (simp; omega)
      | rfl
      | (simp [spoilt]; done)
      | trace_state
theorem c_spoilt (l : List (List Int)) (d : List Int) (hl : d.length ≤ l.length) (hd : d.length ≤ 1048576) (h2 : ∀ x ∈ l, x.length ≤ 1048576) (h0 : ∀ x ∈ l, 0 < x.length) : Fn Try.prog 97 [eLk l, eIs d] true (· = eIs (spoilt l d)) := by
  refine Fn.of_vcN 36 [.tmp 4] Try.func97 rfl rfl rfl rfl rfl (of_decide_eq_true rfl) ?_
  simp -dsimp -implicitDefEqProofs only [go_sem, ↓reduceIte, Nat.reduceEqDiff, Nat.reduceLT, Nat.reduceAdd, Nat.reduceMul, Nat.reduceLeDiff, Nat.le_refl, Int.natCast_zero, Int.toNat_natCast, Int.reduceToNat]
  repeat' (with_reducible refine And.intro ?_ ?_)
  all_goals try omega
  refine Later.up [2, 10, 11] [25, 32, 33] [9] d.length (fun _ => True) (fun i => [(12, eI i), (5, .ref 9 0 0 (flt (spoiltAt l d) i).length)]) (fun i => [(9, .row 0 ⟨1, false⟩ true ((flt (spoiltAt l d) i).map eI))]) trivial ?_ rfl (fun i hi _ => ?_) (fun _ => ?_)
  · simp -dsimp -implicitDefEqProofs only [go_sem, ↓reduceIte, Nat.reduceEqDiff, Nat.reduceLT, Nat.reduceAdd, Nat.reduceMul, Nat.reduceLeDiff, Nat.le_refl, Int.natCast_zero, Int.toNat_natCast, Int.reduceToNat, flt_zero]
    all_goals simp
  · have hi2 : i < l.length := by omega
    have hl := flt_len (spoiltAt l d) i
    have gi := get_some hi
    have gl := get_some hi2
    have li := lt_len hi
    have hx := h2 l[i] (List.getElem_mem hi2)
    have h0i := h0 l[i] (List.getElem_mem hi2)
    have hj : l[i].length - 1 < l[i].length := by omega
    have gj : l[i][((l[i].length : Int) - 1).toNat]? = some l[i][l[i].length - 1] := by rw [pred_toNat h0i]; exact get_some hj
    have hs := flt_succ (spoiltAt l d) i
    have hp : spoiltAt l d i = (decide (d[i] > l[i][l[i].length - 1])) := by simp [spoiltAt, List.getD_eq_getElem?_getD, hi, hi2, hj]
    rw [hp] at hs
    clear hp
    simp -dsimp -implicitDefEqProofs only [pick_nil, pick_cons, look_nil, look_cons, dropB_nil, dropB_cons, inD_nil, inD_cons, inE_nil, inE_cons, or_t_l, or_f_l, Nat.reduceBEq, Nat.reduceDiv, Nat.reduceAdd, beq_self_eq_true, Bool.false_eq_true, Bool.or_false, ↓reduceIte, Nat.reduceEqDiff, List.cons_append, List.nil_append]
    rw [hs]
    clear hs
    simp -dsimp -implicitDefEqProofs only [go_sem, ↓reduceIte, Nat.reduceEqDiff, Nat.reduceLT, Nat.reduceAdd, Nat.reduceMul, Nat.reduceLeDiff, Nat.le_refl, Int.natCast_zero, Int.toNat_natCast, Int.reduceToNat, li, gi, gl, gj]
    repeat' first
      | (refine Br.intro (fun _ => ?_) (fun _ => ?_) <;> try simp -dsimp -implicitDefEqProofs only [go_sem, ↓reduceIte, Nat.reduceEqDiff, Nat.reduceLT, Nat.reduceAdd, Nat.reduceMul, Nat.reduceLeDiff, Nat.le_refl, Int.natCast_zero, Int.toNat_natCast, Int.reduceToNat, *])
      | (with_reducible refine And.intro ?_ ?_)
      | (refine Later.draw mixed rfl ?_; try simp -dsimp -implicitDefEqProofs only [go_sem, ↓reduceIte, Nat.reduceEqDiff, Nat.reduceLT, Nat.reduceAdd, Nat.reduceMul, Nat.reduceLeDiff, Nat.le_refl, Int.natCast_zero, Int.toNat_natCast, Int.reduceToNat, *])
    all_goals first
      | omega | (refine ⟨?_, ?_⟩ <;> omega) | (simp; done) | (simp; omega)
      | rfl
      | (simp_all; done)
      | (simp_all; omega)
      | trace_state
  · have hl := flt_len (spoiltAt l d) d.length
    simp -dsimp -implicitDefEqProofs only [pick_nil, pick_cons, look_nil, look_cons, dropB_nil, dropB_cons, inD_nil, inD_cons, inE_nil, inE_cons, or_t_l, or_f_l, Nat.reduceBEq, Nat.reduceDiv, Nat.reduceAdd, beq_self_eq_true, Bool.false_eq_true, Bool.or_false, ↓reduceIte, Nat.reduceEqDiff, List.cons_append, List.nil_append]
    simp -dsimp -implicitDefEqProofs only [go_sem, ↓reduceIte, Nat.reduceEqDiff, Nat.reduceLT, Nat.reduceAdd, Nat.reduceMul, Nat.reduceLeDiff, Nat.le_refl, Int.natCast_zero, Int.toNat_natCast, Int.reduceToNat, nlt_len]
    repeat' (with_reducible refine And.intro ?_ ?_)
    all_goals first
      | omega | (refine ⟨?_, ?_⟩ <;> omega) | (simp; done) | (simp; omega)
      | rfl
      | (simp [spoilt]; done)
      | trace_state
def blank (l : List (List Int)) : List Int := l.map fun s => s.getD 0 0
theorem c_l33Blank (l : List (List Int)) (h : l.length ≤ 1048576) (h0 : ∀ x ∈ l, 0 < x.length) : Fn Try.prog 89 [eLk l] true (· = eIs (blank l)) := by
  refine Fn.of_vcN 24 [.tmp 2] Try.func89 rfl rfl rfl rfl rfl (of_decide_eq_true rfl) ?_
  simp -dsimp -implicitDefEqProofs only [go_sem, ↓reduceIte, Nat.reduceEqDiff, Nat.reduceLT, Nat.reduceAdd, Nat.reduceMul, Nat.reduceLeDiff, Nat.le_refl, Int.natCast_zero, Int.toNat_natCast, Int.reduceToNat]
  repeat' (with_reducible refine And.intro ?_ ?_)
  all_goals try omega
  refine Later.up [1] [9, 21, 22] [5] l.length (fun _ => True) (fun i => [(4, eI i), (3, .ref 5 0 0 i)]) (fun i => [(5, .row 0 ⟨1, false⟩ true (((blank l).take i).map eI))]) trivial ?_ rfl (fun i hi _ => ?_) (fun _ => ?_)
  · simp -dsimp -implicitDefEqProofs only [go_sem, ↓reduceIte, Nat.reduceEqDiff, Nat.reduceLT, Nat.reduceAdd, Nat.reduceMul, Nat.reduceLeDiff, Nat.le_refl, Int.natCast_zero, Int.toNat_natCast, Int.reduceToNat]
    try simp
  · have h0i := h0 l[i] (List.getElem_mem hi)
    have hi' : i < (blank l).length := by simpa [blank] using hi
    have g0 := take_map_snoc eI hi'
    have g1 : (blank l)[i] = l[i][0] := by simp [blank, List.getD_eq_getElem?_getD, h0i]
    rw [g1] at g0
    have gi := get_some hi
    have gj := get_some h0i
    have li := lt_len hi
    simp -dsimp -implicitDefEqProofs only [pick_nil, pick_cons, look_nil, look_cons, dropB_nil, dropB_cons, inD_nil, inD_cons, inE_nil, inE_cons, or_t_l, or_f_l, Nat.reduceBEq, Nat.reduceDiv, Nat.reduceAdd, beq_self_eq_true, Bool.false_eq_true, Bool.or_false, ↓reduceIte, Nat.reduceEqDiff, List.cons_append, List.nil_append]
    simp -dsimp -implicitDefEqProofs only [go_sem, ↓reduceIte, Nat.reduceEqDiff, Nat.reduceLT, Nat.reduceAdd, Nat.reduceMul, Nat.reduceLeDiff, Nat.le_refl, Int.natCast_zero, Int.toNat_natCast, Int.reduceToNat, li, gi, gj, g0, min_lt hi']
    repeat' first
      | (refine Br.intro (fun _ => ?_) (fun _ => ?_) <;> try simp -dsimp -implicitDefEqProofs only [go_sem, ↓reduceIte, Nat.reduceEqDiff, Nat.reduceLT, Nat.reduceAdd, Nat.reduceMul, Nat.reduceLeDiff, Nat.le_refl, Int.natCast_zero, Int.toNat_natCast, Int.reduceToNat, *])
      | (with_reducible refine And.intro ?_ ?_)
      | (refine Later.draw mixed rfl ?_; simp -dsimp -implicitDefEqProofs only [go_sem, ↓reduceIte, Nat.reduceEqDiff, Nat.reduceLT, Nat.reduceAdd, Nat.reduceMul, Nat.reduceLeDiff, Nat.le_refl, Int.natCast_zero, Int.toNat_natCast, Int.reduceToNat, li, gi, gj, g0, min_lt hi'])
    all_goals first
      | omega | (refine ⟨?_, ?_⟩ <;> omega) | (simp; done) | (simp; omega)
      | rfl
      | trace_state
  · have hl : (blank l).length = l.length := by simp [blank]
    have ht : ((blank l).map eI).take l.length = (blank l).map eI := by rw [← hl, take_map_len]
    simp -dsimp -implicitDefEqProofs only [pick_nil, pick_cons, look_nil, look_cons, dropB_nil, dropB_cons, inD_nil, inD_cons, inE_nil, inE_cons, or_t_l, or_f_l, Nat.reduceBEq, Nat.reduceDiv, Nat.reduceAdd, beq_self_eq_true, Bool.false_eq_true, Bool.or_false, ↓reduceIte, Nat.reduceEqDiff, List.cons_append, List.nil_append]
    simp -dsimp -implicitDefEqProofs only [go_sem, ↓reduceIte, Nat.reduceEqDiff, Nat.reduceLT, Nat.reduceAdd, Nat.reduceMul, Nat.reduceLeDiff, Nat.le_refl, Int.natCast_zero, Int.toNat_natCast, Int.reduceToNat, nlt_len, ht]
    repeat' (with_reducible refine And.intro ?_ ?_)
    all_goals first
      | omega | (refine ⟨?_, ?_⟩ <;> omega) | (simp; done) | (simp; omega)
      | rfl
      | (rw [List.length_take]; omega)
      | trace_state
theorem c_leastDepths (l : List (List Int)) (h : l.length ≤ 1048576) (h0 : ∀ x ∈ l, 0 < x.length) : Fn Try.prog 87 [eLk l] true (· = eIs (blank l)) := by
  refine Fn.of_vcN 22 [.tmp 2] Try.func87 rfl rfl rfl rfl rfl (of_decide_eq_true rfl) ?_
  simp -dsimp -implicitDefEqProofs only [go_sem, ↓reduceIte, Nat.reduceEqDiff, Nat.reduceLT, Nat.reduceAdd, Nat.reduceMul, Nat.reduceLeDiff, Nat.le_refl, Int.natCast_zero, Int.toNat_natCast, Int.reduceToNat]
  repeat' (with_reducible refine And.intro ?_ ?_)
  all_goals try omega
  refine Later.up [8, 9] [18, 19] [6] l.length (fun _ => True) (fun i => [(10, eI i), (3, .ref 6 0 0 i)]) (fun i => [(6, .row 0 ⟨1, false⟩ true (((blank l).take i).map eI))]) trivial ?_ rfl (fun i hi _ => ?_) (fun _ => ?_)
  · simp -dsimp -implicitDefEqProofs only [go_sem, ↓reduceIte, Nat.reduceEqDiff, Nat.reduceLT, Nat.reduceAdd, Nat.reduceMul, Nat.reduceLeDiff, Nat.le_refl, Int.natCast_zero, Int.toNat_natCast, Int.reduceToNat]
    try simp
  · have h0i := h0 l[i] (List.getElem_mem hi)
    have hi' : i < (blank l).length := by simpa [blank] using hi
    have g0 := take_map_snoc eI hi'
    have g1 : (blank l)[i] = l[i][0] := by simp [blank, List.getD_eq_getElem?_getD, h0i]
    rw [g1] at g0
    have gi := get_some hi
    have gj := get_some h0i
    have li := lt_len hi
    simp -dsimp -implicitDefEqProofs only [pick_nil, pick_cons, look_nil, look_cons, dropB_nil, dropB_cons, inD_nil, inD_cons, inE_nil, inE_cons, or_t_l, or_f_l, Nat.reduceBEq, Nat.reduceDiv, Nat.reduceAdd, beq_self_eq_true, Bool.false_eq_true, Bool.or_false, ↓reduceIte, Nat.reduceEqDiff, List.cons_append, List.nil_append]
    simp -dsimp -implicitDefEqProofs only [go_sem, ↓reduceIte, Nat.reduceEqDiff, Nat.reduceLT, Nat.reduceAdd, Nat.reduceMul, Nat.reduceLeDiff, Nat.le_refl, Int.natCast_zero, Int.toNat_natCast, Int.reduceToNat, li, gi, gj, g0, min_lt hi']
    repeat' first
      | (refine Br.intro (fun _ => ?_) (fun _ => ?_) <;> try simp -dsimp -implicitDefEqProofs only [go_sem, ↓reduceIte, Nat.reduceEqDiff, Nat.reduceLT, Nat.reduceAdd, Nat.reduceMul, Nat.reduceLeDiff, Nat.le_refl, Int.natCast_zero, Int.toNat_natCast, Int.reduceToNat, *])
      | (with_reducible refine And.intro ?_ ?_)
      | (refine Later.draw mixed rfl ?_; simp -dsimp -implicitDefEqProofs only [go_sem, ↓reduceIte, Nat.reduceEqDiff, Nat.reduceLT, Nat.reduceAdd, Nat.reduceMul, Nat.reduceLeDiff, Nat.le_refl, Int.natCast_zero, Int.toNat_natCast, Int.reduceToNat, li, gi, gj, g0, min_lt hi'])
    all_goals first
      | omega | (refine ⟨?_, ?_⟩ <;> omega) | (simp; done) | (simp; omega)
      | rfl
      | trace_state
  · have hl : (blank l).length = l.length := by simp [blank]
    have ht : ((blank l).map eI).take l.length = (blank l).map eI := by rw [← hl, take_map_len]
    simp -dsimp -implicitDefEqProofs only [pick_nil, pick_cons, look_nil, look_cons, dropB_nil, dropB_cons, inD_nil, inD_cons, inE_nil, inE_cons, or_t_l, or_f_l, Nat.reduceBEq, Nat.reduceDiv, Nat.reduceAdd, beq_self_eq_true, Bool.false_eq_true, Bool.or_false, ↓reduceIte, Nat.reduceEqDiff, List.cons_append, List.nil_append]
    simp -dsimp -implicitDefEqProofs only [go_sem, ↓reduceIte, Nat.reduceEqDiff, Nat.reduceLT, Nat.reduceAdd, Nat.reduceMul, Nat.reduceLeDiff, Nat.le_refl, Int.natCast_zero, Int.toNat_natCast, Int.reduceToNat, nlt_len, ht]
    repeat' (with_reducible refine And.intro ?_ ?_)
    all_goals first
      | omega | (refine ⟨?_, ?_⟩ <;> omega) | (simp; done) | (simp; omega)
      | rfl
      | (rw [List.length_take]; omega)
      | trace_state
theorem c_l01Sum (xs : List Int) (h : xs.length ≤ 1048576) (h0 : ∀ x ∈ xs, 0 ≤ x ∧ x ≤ 1000000) : Fn Try.prog 91 [eIs xs] true (· = eI xs.sum) := by
  refine Fn.of_vcN 18 [.tmp 2] Try.func91 rfl rfl rfl rfl rfl (of_decide_eq_true rfl) ?_
  simp -dsimp -implicitDefEqProofs only [go_sem, ↓reduceIte, Nat.reduceEqDiff, Nat.reduceLT, Nat.reduceAdd, Nat.reduceMul, Nat.reduceLeDiff, Nat.le_refl, Int.natCast_zero, Int.toNat_natCast, Int.reduceToNat]
  refine Later.up [0] [7] [] xs.length (fun i => 0 ≤ (xs.take i).sum ∧ (xs.take i).sum ≤ 1000000 * i) (fun i => [(4, eI i), (3, eI (xs.take i).sum)]) (fun _ => []) (by simp) ?_ rfl (fun i hi hI => ?_) (fun hI => ?_)
  · simp -dsimp -implicitDefEqProofs only [go_sem, ↓reduceIte, Nat.reduceEqDiff, Nat.reduceLT, Nat.reduceAdd, Nat.reduceMul, Nat.reduceLeDiff, Nat.le_refl, Int.natCast_zero, Int.toNat_natCast, Int.reduceToNat, List.take_zero, List.sum_nil]
  · have hx := h0 xs[i] (List.getElem_mem hi)
    have hs : (xs.take (i + 1)).sum = (xs.take i).sum + xs[i] := by rw [List.take_succ_eq_append_getElem hi, List.sum_append]; simp
    simp -dsimp -implicitDefEqProofs only [pick_nil, pick_cons, look_nil, look_cons, dropB_nil, dropB_cons, inD_nil, inD_cons, inE_nil, inE_cons, or_t_l, or_f_l, Nat.reduceBEq, Nat.reduceDiv, Nat.reduceAdd, beq_self_eq_true, Bool.false_eq_true, Bool.or_false, ↓reduceIte, Nat.reduceEqDiff, List.cons_append, List.nil_append]
    rw [hs]
    simp -dsimp -implicitDefEqProofs only [go_sem, ↓reduceIte, Nat.reduceEqDiff, Nat.reduceLT, Nat.reduceAdd, Nat.reduceMul, Nat.reduceLeDiff, Nat.le_refl, Int.natCast_zero, Int.toNat_natCast, Int.reduceToNat, lt_len hi, get_some hi]
    repeat' first
      | (refine Br.intro (fun _ => ?_) (fun _ => ?_) <;> try simp -dsimp -implicitDefEqProofs only [go_sem, ↓reduceIte, Nat.reduceEqDiff, Nat.reduceLT, Nat.reduceAdd, Nat.reduceMul, Nat.reduceLeDiff, Nat.le_refl, Int.natCast_zero, Int.toNat_natCast, Int.reduceToNat, *])
      | (with_reducible refine And.intro ?_ ?_)
      | (refine Later.draw mixed rfl ?_; simp -dsimp -implicitDefEqProofs only [go_sem, ↓reduceIte, Nat.reduceEqDiff, Nat.reduceLT, Nat.reduceAdd, Nat.reduceMul, Nat.reduceLeDiff, Nat.le_refl, Int.natCast_zero, Int.toNat_natCast, Int.reduceToNat, lt_len hi, get_some hi])
    all_goals first
      | omega | (refine ⟨?_, ?_⟩ <;> omega) | (simp; done) | (simp; omega)
      | rfl
      | trace_state
  · simp -dsimp -implicitDefEqProofs only [pick_nil, pick_cons, look_nil, look_cons, dropB_nil, dropB_cons, inD_nil, inD_cons, inE_nil, inE_cons, or_t_l, or_f_l, Nat.reduceBEq, Nat.reduceDiv, Nat.reduceAdd, beq_self_eq_true, Bool.false_eq_true, Bool.or_false, ↓reduceIte, Nat.reduceEqDiff, List.cons_append, List.nil_append]
    simp -dsimp -implicitDefEqProofs only [go_sem, ↓reduceIte, Nat.reduceEqDiff, Nat.reduceLT, Nat.reduceAdd, Nat.reduceMul, Nat.reduceLeDiff, Nat.le_refl, Int.natCast_zero, Int.toNat_natCast, Int.reduceToNat, nlt_len]
    rw [List.take_length]
theorem c_iSum (xs : List Int) (h : xs.length ≤ 1048576) (h0 : ∀ x ∈ xs, 0 ≤ x ∧ x ≤ 1000000) : Fn Try.prog 90 [eIs xs] true (· = eI xs.sum) := by
  refine Fn.of_vcN 17 [.tmp 2] Try.func90 rfl rfl rfl rfl rfl (of_decide_eq_true rfl) ?_
  simp -dsimp -implicitDefEqProofs only [go_sem, ↓reduceIte, Nat.reduceEqDiff, Nat.reduceLT, Nat.reduceAdd, Nat.reduceMul, Nat.reduceLeDiff, Nat.le_refl, Int.natCast_zero, Int.toNat_natCast, Int.reduceToNat]
  refine Later.up [6, 7] [] [] xs.length (fun i => 0 ≤ (xs.take i).sum ∧ (xs.take i).sum ≤ 1000000 * i) (fun i => [(8, eI i), (3, eI (xs.take i).sum)]) (fun _ => []) (by simp) ?_ rfl (fun i hi hI => ?_) (fun hI => ?_)
  · simp -dsimp -implicitDefEqProofs only [go_sem, ↓reduceIte, Nat.reduceEqDiff, Nat.reduceLT, Nat.reduceAdd, Nat.reduceMul, Nat.reduceLeDiff, Nat.le_refl, Int.natCast_zero, Int.toNat_natCast, Int.reduceToNat, List.take_zero, List.sum_nil]
  · have hx := h0 xs[i] (List.getElem_mem hi)
    have hs : (xs.take (i + 1)).sum = (xs.take i).sum + xs[i] := by rw [List.take_succ_eq_append_getElem hi, List.sum_append]; simp
    simp -dsimp -implicitDefEqProofs only [pick_nil, pick_cons, look_nil, look_cons, dropB_nil, dropB_cons, inD_nil, inD_cons, inE_nil, inE_cons, or_t_l, or_f_l, Nat.reduceBEq, Nat.reduceDiv, Nat.reduceAdd, beq_self_eq_true, Bool.false_eq_true, Bool.or_false, ↓reduceIte, Nat.reduceEqDiff, List.cons_append, List.nil_append]
    rw [hs]
    simp -dsimp -implicitDefEqProofs only [go_sem, ↓reduceIte, Nat.reduceEqDiff, Nat.reduceLT, Nat.reduceAdd, Nat.reduceMul, Nat.reduceLeDiff, Nat.le_refl, Int.natCast_zero, Int.toNat_natCast, Int.reduceToNat, lt_len hi, get_some hi]
    repeat' first
      | (refine Br.intro (fun _ => ?_) (fun _ => ?_) <;> try simp -dsimp -implicitDefEqProofs only [go_sem, ↓reduceIte, Nat.reduceEqDiff, Nat.reduceLT, Nat.reduceAdd, Nat.reduceMul, Nat.reduceLeDiff, Nat.le_refl, Int.natCast_zero, Int.toNat_natCast, Int.reduceToNat, *])
      | (with_reducible refine And.intro ?_ ?_)
      | (refine Later.draw mixed rfl ?_; simp -dsimp -implicitDefEqProofs only [go_sem, ↓reduceIte, Nat.reduceEqDiff, Nat.reduceLT, Nat.reduceAdd, Nat.reduceMul, Nat.reduceLeDiff, Nat.le_refl, Int.natCast_zero, Int.toNat_natCast, Int.reduceToNat, lt_len hi, get_some hi])
    all_goals first
      | omega | (refine ⟨?_, ?_⟩ <;> omega) | (simp; done) | (simp; omega)
      | rfl
      | trace_state
  · simp -dsimp -implicitDefEqProofs only [pick_nil, pick_cons, look_nil, look_cons, dropB_nil, dropB_cons, inD_nil, inD_cons, inE_nil, inE_cons, or_t_l, or_f_l, Nat.reduceBEq, Nat.reduceDiv, Nat.reduceAdd, beq_self_eq_true, Bool.false_eq_true, Bool.or_false, ↓reduceIte, Nat.reduceEqDiff, List.cons_append, List.nil_append]
    simp -dsimp -implicitDefEqProofs only [go_sem, ↓reduceIte, Nat.reduceEqDiff, Nat.reduceLT, Nat.reduceAdd, Nat.reduceMul, Nat.reduceLeDiff, Nat.le_refl, Int.natCast_zero, Int.toNat_natCast, Int.reduceToNat, nlt_len]
    rw [List.take_length]
theorem blank_ok {m : MkM} {l : List (List Int)} (h : isLk m l = true) : (∀ x ∈ l, 0 < x.length) ∧ (blank l).length ≤ 1048576 ∧ ∀ x ∈ blank l, 0 ≤ x ∧ x ≤ 1000000 := by
  have hs : ∀ x ∈ l, 0 < x.length ∧ rises x m.depths = true := by
    intro x hx
    obtain ⟨i, hi, rfl⟩ := List.getElem_of_mem hx
    exact isLk_set h hi
  refine ⟨fun x hx => (hs x hx).1, by have := (isLk_len h).2; simp [blank]; omega, fun x hx => ?_⟩
  simp only [blank, List.mem_map] at hx
  obtain ⟨s, hs1, rfl⟩ := hx
  have h1 := hs s hs1
  have h3 := rises_at h1.2 (j := 0) h1.1
  have h4 := isLk_dep h
  simp [List.getD_eq_getElem?_getD, h1.1]
  omega
def cutsMade (m : MkM) (l : List (List Int)) : Int × Int := if isLk m l then ((blank l).sum, 0) else (0, 1)
def filedBlank (m : MkM) (l : List (List Int)) : List Int × Int := if isLk m l then (blank l, 0) else ([], 1)
def isFinished (m : MkM) (l : List (List Int)) (d : List Int) : Bool × Int := if impCode m l d = 0 then (((marks l d).length : Int) == 0, 0) else (false, impCode m l d)
def marksOf (m : MkM) (l : List (List Int)) (d : List Int) : List Int × Int := if impCode m l d = 0 then (marks l d, 0) else ([], impCode m l d)
def spoiltChambers (m : MkM) (l : List (List Int)) (d : List Int) : List Int × Int := if impCode m l d = 0 then (spoilt l d, 0) else ([], impCode m l d)
theorem impCode_zero {m : MkM} {l : List (List Int)} {d : List Int} (h : impCode m l d = 0) : isLk m l = true ∧ isCuts m d = true ∧ d.length ≤ l.length := by
  unfold impCode at h
  split at h
  · rename_i h1
    split at h
    · rename_i h2; exact ⟨h1, h2, by rw [isCuts_len h1 h2]; exact Nat.le_refl _⟩
    · omega
  · omega
theorem c_sCutsMade (m : MkM) (l : List (List Int)) (h : l.length ≤ 1048576) (h2 : ∀ x ∈ l, x.length ≤ 1048576) : Fn Try.prog 27 [eMk m, eLk l] true (· = .tup [eI (cutsMade m l).1, eI (cutsMade m l).2]) := by
  refine Fn.of_vcN 13 [.tmp 4, .tmp 5] Try.func27 rfl rfl rfl rfl rfl (of_decide_eq_true rfl) ?_
  rcases hb : isLk m l with _ | _
  · simp -dsimp -implicitDefEqProofs only [go_sem, ↓reduceIte, Nat.reduceEqDiff, Nat.reduceLT, Nat.reduceAdd, Nat.reduceMul, Nat.reduceLeDiff, Nat.le_refl, Int.natCast_zero, Int.toNat_natCast, Int.reduceToNat]
    repeat' first
    | (refine Br.intro (fun _ => ?_) (fun _ => ?_) <;> try simp -dsimp -implicitDefEqProofs only [go_sem, ↓reduceIte, Nat.reduceEqDiff, Nat.reduceLT, Nat.reduceAdd, Nat.reduceMul, Nat.reduceLeDiff, Nat.le_refl, Int.natCast_zero, Int.toNat_natCast, Int.reduceToNat, *])
    | (with_reducible refine And.intro ?_ ?_)
    | (refine sCallT_one (c_sIsLock m l h h2) ?_; try simp -dsimp -implicitDefEqProofs only [go_sem, ↓reduceIte, Nat.reduceEqDiff, Nat.reduceLT, Nat.reduceAdd, Nat.reduceMul, Nat.reduceLeDiff, Nat.le_refl, Int.natCast_zero, Int.toNat_natCast, Int.reduceToNat, *])
    | (refine sCallT_one (c_locksCode1 m l h h2) ?_; try simp -dsimp -implicitDefEqProofs only [go_sem, ↓reduceIte, Nat.reduceEqDiff, Nat.reduceLT, Nat.reduceAdd, Nat.reduceMul, Nat.reduceLeDiff, Nat.le_refl, Int.natCast_zero, Int.toNat_natCast, Int.reduceToNat, *])
    all_goals first
      | omega | (refine ⟨?_, ?_⟩ <;> omega) | (simp; done) | (simp; omega)
      | rfl
      | (simp_all [cutsMade, lkCode]; done)
      | trace_state
  · obtain ⟨q1, q2, q3⟩ := blank_ok hb
    simp -dsimp -implicitDefEqProofs only [go_sem, ↓reduceIte, Nat.reduceEqDiff, Nat.reduceLT, Nat.reduceAdd, Nat.reduceMul, Nat.reduceLeDiff, Nat.le_refl, Int.natCast_zero, Int.toNat_natCast, Int.reduceToNat]
    repeat' first
    | (refine Br.intro (fun _ => ?_) (fun _ => ?_) <;> try simp -dsimp -implicitDefEqProofs only [go_sem, ↓reduceIte, Nat.reduceEqDiff, Nat.reduceLT, Nat.reduceAdd, Nat.reduceMul, Nat.reduceLeDiff, Nat.le_refl, Int.natCast_zero, Int.toNat_natCast, Int.reduceToNat, *])
    | (with_reducible refine And.intro ?_ ?_)
    | (refine sCallT_one (c_sIsLock m l h h2) ?_; try simp -dsimp -implicitDefEqProofs only [go_sem, ↓reduceIte, Nat.reduceEqDiff, Nat.reduceLT, Nat.reduceAdd, Nat.reduceMul, Nat.reduceLeDiff, Nat.le_refl, Int.natCast_zero, Int.toNat_natCast, Int.reduceToNat, *])
    | (refine sCallT_one (c_locksCode1 m l h h2) ?_; try simp -dsimp -implicitDefEqProofs only [go_sem, ↓reduceIte, Nat.reduceEqDiff, Nat.reduceLT, Nat.reduceAdd, Nat.reduceMul, Nat.reduceLeDiff, Nat.le_refl, Int.natCast_zero, Int.toNat_natCast, Int.reduceToNat, *])
    | (refine sCallT_one (c_l33Blank l h q1) ?_; try simp -dsimp -implicitDefEqProofs only [go_sem, ↓reduceIte, Nat.reduceEqDiff, Nat.reduceLT, Nat.reduceAdd, Nat.reduceMul, Nat.reduceLeDiff, Nat.le_refl, Int.natCast_zero, Int.toNat_natCast, Int.reduceToNat, *])
    | (refine sCallT_one (c_l01Sum _ q2 q3) ?_; try simp -dsimp -implicitDefEqProofs only [go_sem, ↓reduceIte, Nat.reduceEqDiff, Nat.reduceLT, Nat.reduceAdd, Nat.reduceMul, Nat.reduceLeDiff, Nat.le_refl, Int.natCast_zero, Int.toNat_natCast, Int.reduceToNat, *])
    | (refine sCallX_one (c_l33Blank l h q1) ?_; try simp -dsimp -implicitDefEqProofs only [go_sem, ↓reduceIte, Nat.reduceEqDiff, Nat.reduceLT, Nat.reduceAdd, Nat.reduceMul, Nat.reduceLeDiff, Nat.le_refl, Int.natCast_zero, Int.toNat_natCast, Int.reduceToNat, *])
    | (refine sCallX_one (c_l01Sum _ q2 q3) ?_; try simp -dsimp -implicitDefEqProofs only [go_sem, ↓reduceIte, Nat.reduceEqDiff, Nat.reduceLT, Nat.reduceAdd, Nat.reduceMul, Nat.reduceLeDiff, Nat.le_refl, Int.natCast_zero, Int.toNat_natCast, Int.reduceToNat, *])
    | (refine Later.draw mixed rfl ?_; try simp -dsimp -implicitDefEqProofs only [go_sem, ↓reduceIte, Nat.reduceEqDiff, Nat.reduceLT, Nat.reduceAdd, Nat.reduceMul, Nat.reduceLeDiff, Nat.le_refl, Int.natCast_zero, Int.toNat_natCast, Int.reduceToNat, *])
    all_goals first
      | omega | (refine ⟨?_, ?_⟩ <;> omega) | (simp; done) | (simp; omega)
      | rfl
      | (simp_all [cutsMade, lkCode]; done)
      | (simp_all [cutsMade, lkCode]; omega)
      | trace_state
theorem c_iCutsMade (m : MkM) (l : List (List Int)) (h : l.length ≤ 1048576) (h2 : ∀ x ∈ l, x.length ≤ 1048576) : Fn Try.prog 26 [eMk m, eLk l] true (· = .tup [eI (cutsMade m l).1, eI (cutsMade m l).2]) := by
  refine Fn.of_vcN 17 [.tmp 4, .tmp 5] Try.func26 rfl rfl rfl rfl rfl (of_decide_eq_true rfl) ?_
  rcases hb : isLk m l with _ | _
  · simp -dsimp -implicitDefEqProofs only [go_sem, ↓reduceIte, Nat.reduceEqDiff, Nat.reduceLT, Nat.reduceAdd, Nat.reduceMul, Nat.reduceLeDiff, Nat.le_refl, Int.natCast_zero, Int.toNat_natCast, Int.reduceToNat]
    repeat' first
    | (refine Br.intro (fun _ => ?_) (fun _ => ?_) <;> try simp -dsimp -implicitDefEqProofs only [go_sem, ↓reduceIte, Nat.reduceEqDiff, Nat.reduceLT, Nat.reduceAdd, Nat.reduceMul, Nat.reduceLeDiff, Nat.le_refl, Int.natCast_zero, Int.toNat_natCast, Int.reduceToNat, *])
    | (with_reducible refine And.intro ?_ ?_)
    | (refine sCallT_one (c_sIsLock m l h h2) ?_; try simp -dsimp -implicitDefEqProofs only [go_sem, ↓reduceIte, Nat.reduceEqDiff, Nat.reduceLT, Nat.reduceAdd, Nat.reduceMul, Nat.reduceLeDiff, Nat.le_refl, Int.natCast_zero, Int.toNat_natCast, Int.reduceToNat, *])
    | (refine sCallT_one (c_locksCode1 m l h h2) ?_; try simp -dsimp -implicitDefEqProofs only [go_sem, ↓reduceIte, Nat.reduceEqDiff, Nat.reduceLT, Nat.reduceAdd, Nat.reduceMul, Nat.reduceLeDiff, Nat.le_refl, Int.natCast_zero, Int.toNat_natCast, Int.reduceToNat, *])
    all_goals first
      | omega | (refine ⟨?_, ?_⟩ <;> omega) | (simp; done) | (simp; omega)
      | rfl
      | (simp_all [cutsMade, lkCode]; done)
      | trace_state
  · obtain ⟨q1, q2, q3⟩ := blank_ok hb
    simp -dsimp -implicitDefEqProofs only [go_sem, ↓reduceIte, Nat.reduceEqDiff, Nat.reduceLT, Nat.reduceAdd, Nat.reduceMul, Nat.reduceLeDiff, Nat.le_refl, Int.natCast_zero, Int.toNat_natCast, Int.reduceToNat]
    repeat' first
    | (refine Br.intro (fun _ => ?_) (fun _ => ?_) <;> try simp -dsimp -implicitDefEqProofs only [go_sem, ↓reduceIte, Nat.reduceEqDiff, Nat.reduceLT, Nat.reduceAdd, Nat.reduceMul, Nat.reduceLeDiff, Nat.le_refl, Int.natCast_zero, Int.toNat_natCast, Int.reduceToNat, *])
    | (with_reducible refine And.intro ?_ ?_)
    | (refine sCallT_one (c_sIsLock m l h h2) ?_; try simp -dsimp -implicitDefEqProofs only [go_sem, ↓reduceIte, Nat.reduceEqDiff, Nat.reduceLT, Nat.reduceAdd, Nat.reduceMul, Nat.reduceLeDiff, Nat.le_refl, Int.natCast_zero, Int.toNat_natCast, Int.reduceToNat, *])
    | (refine sCallT_one (c_locksCode1 m l h h2) ?_; try simp -dsimp -implicitDefEqProofs only [go_sem, ↓reduceIte, Nat.reduceEqDiff, Nat.reduceLT, Nat.reduceAdd, Nat.reduceMul, Nat.reduceLeDiff, Nat.le_refl, Int.natCast_zero, Int.toNat_natCast, Int.reduceToNat, *])
    | (refine sCallT_one (c_leastDepths l h q1) ?_; try simp -dsimp -implicitDefEqProofs only [go_sem, ↓reduceIte, Nat.reduceEqDiff, Nat.reduceLT, Nat.reduceAdd, Nat.reduceMul, Nat.reduceLeDiff, Nat.le_refl, Int.natCast_zero, Int.toNat_natCast, Int.reduceToNat, *])
    | (refine sCallT_one (c_iSum _ q2 q3) ?_; try simp -dsimp -implicitDefEqProofs only [go_sem, ↓reduceIte, Nat.reduceEqDiff, Nat.reduceLT, Nat.reduceAdd, Nat.reduceMul, Nat.reduceLeDiff, Nat.le_refl, Int.natCast_zero, Int.toNat_natCast, Int.reduceToNat, *])
    | (refine sCallX_one (c_leastDepths l h q1) ?_; try simp -dsimp -implicitDefEqProofs only [go_sem, ↓reduceIte, Nat.reduceEqDiff, Nat.reduceLT, Nat.reduceAdd, Nat.reduceMul, Nat.reduceLeDiff, Nat.le_refl, Int.natCast_zero, Int.toNat_natCast, Int.reduceToNat, *])
    | (refine sCallX_one (c_iSum _ q2 q3) ?_; try simp -dsimp -implicitDefEqProofs only [go_sem, ↓reduceIte, Nat.reduceEqDiff, Nat.reduceLT, Nat.reduceAdd, Nat.reduceMul, Nat.reduceLeDiff, Nat.le_refl, Int.natCast_zero, Int.toNat_natCast, Int.reduceToNat, *])
    | (refine Later.draw mixed rfl ?_; try simp -dsimp -implicitDefEqProofs only [go_sem, ↓reduceIte, Nat.reduceEqDiff, Nat.reduceLT, Nat.reduceAdd, Nat.reduceMul, Nat.reduceLeDiff, Nat.le_refl, Int.natCast_zero, Int.toNat_natCast, Int.reduceToNat, *])
    all_goals first
      | omega | (refine ⟨?_, ?_⟩ <;> omega) | (simp; done) | (simp; omega)
      | rfl
      | (simp_all [cutsMade, lkCode]; done)
      | (simp_all [cutsMade, lkCode]; omega)
      | trace_state
theorem c_sFiledBlank (m : MkM) (l : List (List Int)) (h : l.length ≤ 1048576) (h2 : ∀ x ∈ l, x.length ≤ 1048576) : Fn Try.prog 25 [eMk m, eLk l] true (· = .tup [eIs (filedBlank m l).1, eI (filedBlank m l).2]) := by
  refine Fn.of_vcN 12 [.tmp 4, .tmp 5] Try.func25 rfl rfl rfl rfl rfl (of_decide_eq_true rfl) ?_
  rcases hb : isLk m l with _ | _
  · simp -dsimp -implicitDefEqProofs only [go_sem, ↓reduceIte, Nat.reduceEqDiff, Nat.reduceLT, Nat.reduceAdd, Nat.reduceMul, Nat.reduceLeDiff, Nat.le_refl, Int.natCast_zero, Int.toNat_natCast, Int.reduceToNat]
    repeat' first
    | (refine Br.intro (fun _ => ?_) (fun _ => ?_) <;> try simp -dsimp -implicitDefEqProofs only [go_sem, ↓reduceIte, Nat.reduceEqDiff, Nat.reduceLT, Nat.reduceAdd, Nat.reduceMul, Nat.reduceLeDiff, Nat.le_refl, Int.natCast_zero, Int.toNat_natCast, Int.reduceToNat, *])
    | (with_reducible refine And.intro ?_ ?_)
    | (refine sCallT_one (c_sIsLock m l h h2) ?_; try simp -dsimp -implicitDefEqProofs only [go_sem, ↓reduceIte, Nat.reduceEqDiff, Nat.reduceLT, Nat.reduceAdd, Nat.reduceMul, Nat.reduceLeDiff, Nat.le_refl, Int.natCast_zero, Int.toNat_natCast, Int.reduceToNat, *])
    | (refine sCallT_one (c_locksCode1 m l h h2) ?_; try simp -dsimp -implicitDefEqProofs only [go_sem, ↓reduceIte, Nat.reduceEqDiff, Nat.reduceLT, Nat.reduceAdd, Nat.reduceMul, Nat.reduceLeDiff, Nat.le_refl, Int.natCast_zero, Int.toNat_natCast, Int.reduceToNat, *])
    all_goals first
      | omega | (refine ⟨?_, ?_⟩ <;> omega) | (simp; done) | (simp; omega)
      | rfl
      | (simp_all [filedBlank, lkCode]; done)
      | trace_state
  · obtain ⟨q1, q2, q3⟩ := blank_ok hb
    simp -dsimp -implicitDefEqProofs only [go_sem, ↓reduceIte, Nat.reduceEqDiff, Nat.reduceLT, Nat.reduceAdd, Nat.reduceMul, Nat.reduceLeDiff, Nat.le_refl, Int.natCast_zero, Int.toNat_natCast, Int.reduceToNat]
    repeat' first
    | (refine Br.intro (fun _ => ?_) (fun _ => ?_) <;> try simp -dsimp -implicitDefEqProofs only [go_sem, ↓reduceIte, Nat.reduceEqDiff, Nat.reduceLT, Nat.reduceAdd, Nat.reduceMul, Nat.reduceLeDiff, Nat.le_refl, Int.natCast_zero, Int.toNat_natCast, Int.reduceToNat, *])
    | (with_reducible refine And.intro ?_ ?_)
    | (refine sCallT_one (c_sIsLock m l h h2) ?_; try simp -dsimp -implicitDefEqProofs only [go_sem, ↓reduceIte, Nat.reduceEqDiff, Nat.reduceLT, Nat.reduceAdd, Nat.reduceMul, Nat.reduceLeDiff, Nat.le_refl, Int.natCast_zero, Int.toNat_natCast, Int.reduceToNat, *])
    | (refine sCallT_one (c_locksCode1 m l h h2) ?_; try simp -dsimp -implicitDefEqProofs only [go_sem, ↓reduceIte, Nat.reduceEqDiff, Nat.reduceLT, Nat.reduceAdd, Nat.reduceMul, Nat.reduceLeDiff, Nat.le_refl, Int.natCast_zero, Int.toNat_natCast, Int.reduceToNat, *])
    | (refine sCallT_one (c_l33Blank l h q1) ?_; try simp -dsimp -implicitDefEqProofs only [go_sem, ↓reduceIte, Nat.reduceEqDiff, Nat.reduceLT, Nat.reduceAdd, Nat.reduceMul, Nat.reduceLeDiff, Nat.le_refl, Int.natCast_zero, Int.toNat_natCast, Int.reduceToNat, *])
    | (refine sCallX_one (c_l33Blank l h q1) ?_; try simp -dsimp -implicitDefEqProofs only [go_sem, ↓reduceIte, Nat.reduceEqDiff, Nat.reduceLT, Nat.reduceAdd, Nat.reduceMul, Nat.reduceLeDiff, Nat.le_refl, Int.natCast_zero, Int.toNat_natCast, Int.reduceToNat, *])
    | (refine Later.draw mixed rfl ?_; try simp -dsimp -implicitDefEqProofs only [go_sem, ↓reduceIte, Nat.reduceEqDiff, Nat.reduceLT, Nat.reduceAdd, Nat.reduceMul, Nat.reduceLeDiff, Nat.le_refl, Int.natCast_zero, Int.toNat_natCast, Int.reduceToNat, *])
    all_goals first
      | omega | (refine ⟨?_, ?_⟩ <;> omega) | (simp; done) | (simp; omega)
      | rfl
      | (simp_all [filedBlank, lkCode]; done)
      | (simp_all [filedBlank, lkCode]; omega)
      | trace_state
theorem c_iFiledBlank (m : MkM) (l : List (List Int)) (h : l.length ≤ 1048576) (h2 : ∀ x ∈ l, x.length ≤ 1048576) : Fn Try.prog 24 [eMk m, eLk l] true (· = .tup [eIs (filedBlank m l).1, eI (filedBlank m l).2]) := by
  refine Fn.of_vcN 16 [.tmp 4, .tmp 5] Try.func24 rfl rfl rfl rfl rfl (of_decide_eq_true rfl) ?_
  rcases hb : isLk m l with _ | _
  · simp -dsimp -implicitDefEqProofs only [go_sem, ↓reduceIte, Nat.reduceEqDiff, Nat.reduceLT, Nat.reduceAdd, Nat.reduceMul, Nat.reduceLeDiff, Nat.le_refl, Int.natCast_zero, Int.toNat_natCast, Int.reduceToNat]
    repeat' first
    | (refine Br.intro (fun _ => ?_) (fun _ => ?_) <;> try simp -dsimp -implicitDefEqProofs only [go_sem, ↓reduceIte, Nat.reduceEqDiff, Nat.reduceLT, Nat.reduceAdd, Nat.reduceMul, Nat.reduceLeDiff, Nat.le_refl, Int.natCast_zero, Int.toNat_natCast, Int.reduceToNat, *])
    | (with_reducible refine And.intro ?_ ?_)
    | (refine sCallT_one (c_sIsLock m l h h2) ?_; try simp -dsimp -implicitDefEqProofs only [go_sem, ↓reduceIte, Nat.reduceEqDiff, Nat.reduceLT, Nat.reduceAdd, Nat.reduceMul, Nat.reduceLeDiff, Nat.le_refl, Int.natCast_zero, Int.toNat_natCast, Int.reduceToNat, *])
    | (refine sCallT_one (c_locksCode1 m l h h2) ?_; try simp -dsimp -implicitDefEqProofs only [go_sem, ↓reduceIte, Nat.reduceEqDiff, Nat.reduceLT, Nat.reduceAdd, Nat.reduceMul, Nat.reduceLeDiff, Nat.le_refl, Int.natCast_zero, Int.toNat_natCast, Int.reduceToNat, *])
    all_goals first
      | omega | (refine ⟨?_, ?_⟩ <;> omega) | (simp; done) | (simp; omega)
      | rfl
      | (simp_all [filedBlank, lkCode]; done)
      | trace_state
  · obtain ⟨q1, q2, q3⟩ := blank_ok hb
    simp -dsimp -implicitDefEqProofs only [go_sem, ↓reduceIte, Nat.reduceEqDiff, Nat.reduceLT, Nat.reduceAdd, Nat.reduceMul, Nat.reduceLeDiff, Nat.le_refl, Int.natCast_zero, Int.toNat_natCast, Int.reduceToNat]
    repeat' first
    | (refine Br.intro (fun _ => ?_) (fun _ => ?_) <;> try simp -dsimp -implicitDefEqProofs only [go_sem, ↓reduceIte, Nat.reduceEqDiff, Nat.reduceLT, Nat.reduceAdd, Nat.reduceMul, Nat.reduceLeDiff, Nat.le_refl, Int.natCast_zero, Int.toNat_natCast, Int.reduceToNat, *])
    | (with_reducible refine And.intro ?_ ?_)
    | (refine sCallT_one (c_sIsLock m l h h2) ?_; try simp -dsimp -implicitDefEqProofs only [go_sem, ↓reduceIte, Nat.reduceEqDiff, Nat.reduceLT, Nat.reduceAdd, Nat.reduceMul, Nat.reduceLeDiff, Nat.le_refl, Int.natCast_zero, Int.toNat_natCast, Int.reduceToNat, *])
    | (refine sCallT_one (c_locksCode1 m l h h2) ?_; try simp -dsimp -implicitDefEqProofs only [go_sem, ↓reduceIte, Nat.reduceEqDiff, Nat.reduceLT, Nat.reduceAdd, Nat.reduceMul, Nat.reduceLeDiff, Nat.le_refl, Int.natCast_zero, Int.toNat_natCast, Int.reduceToNat, *])
    | (refine sCallT_one (c_leastDepths l h q1) ?_; try simp -dsimp -implicitDefEqProofs only [go_sem, ↓reduceIte, Nat.reduceEqDiff, Nat.reduceLT, Nat.reduceAdd, Nat.reduceMul, Nat.reduceLeDiff, Nat.le_refl, Int.natCast_zero, Int.toNat_natCast, Int.reduceToNat, *])
    | (refine sCallX_one (c_leastDepths l h q1) ?_; try simp -dsimp -implicitDefEqProofs only [go_sem, ↓reduceIte, Nat.reduceEqDiff, Nat.reduceLT, Nat.reduceAdd, Nat.reduceMul, Nat.reduceLeDiff, Nat.le_refl, Int.natCast_zero, Int.toNat_natCast, Int.reduceToNat, *])
    | (refine Later.draw mixed rfl ?_; try simp -dsimp -implicitDefEqProofs only [go_sem, ↓reduceIte, Nat.reduceEqDiff, Nat.reduceLT, Nat.reduceAdd, Nat.reduceMul, Nat.reduceLeDiff, Nat.le_refl, Int.natCast_zero, Int.toNat_natCast, Int.reduceToNat, *])
    all_goals first
      | omega | (refine ⟨?_, ?_⟩ <;> omega) | (simp; done) | (simp; omega)
      | rfl
      | (simp_all [filedBlank, lkCode]; done)
      | (simp_all [filedBlank, lkCode]; omega)
      | trace_state
theorem c_sMarksOf (m : MkM) (l : List (List Int)) (d : List Int) (h : l.length ≤ 1048576) (h2 : ∀ x ∈ l, x.length ≤ 1048576) (hd : d.length ≤ 1048576) : Fn Try.prog 35 [eMk m, eLk l, eIs d] true (· = .tup [eIs (marksOf m l d).1, eI (marksOf m l d).2]) := by
  refine Fn.of_vcN 19 [.tmp 6, .tmp 7] Try.func35 rfl rfl rfl rfl rfl (of_decide_eq_true rfl) ?_
  by_cases hb : impCode m l d = 0
  · obtain ⟨k1, k2, k3⟩ := impCode_zero hb
    obtain ⟨q1, q2, q3⟩ := blank_ok k1
    simp -dsimp -implicitDefEqProofs only [go_sem, ↓reduceIte, Nat.reduceEqDiff, Nat.reduceLT, Nat.reduceAdd, Nat.reduceMul, Nat.reduceLeDiff, Nat.le_refl, Int.natCast_zero, Int.toNat_natCast, Int.reduceToNat]
    repeat' first
    | (refine Br.intro (fun _ => ?_) (fun _ => ?_) <;> try simp -dsimp -implicitDefEqProofs only [go_sem, ↓reduceIte, Nat.reduceEqDiff, Nat.reduceLT, Nat.reduceAdd, Nat.reduceMul, Nat.reduceLeDiff, Nat.le_refl, Int.natCast_zero, Int.toNat_natCast, Int.reduceToNat, *])
    | (with_reducible refine And.intro ?_ ?_)
    | (refine sCallT_one (c_l33Code m l d h h2 hd) ?_; try simp -dsimp -implicitDefEqProofs only [go_sem, ↓reduceIte, Nat.reduceEqDiff, Nat.reduceLT, Nat.reduceAdd, Nat.reduceMul, Nat.reduceLeDiff, Nat.le_refl, Int.natCast_zero, Int.toNat_natCast, Int.reduceToNat, *])
    | (refine sCallT_one (c_l33Marks l d k3 hd h2) ?_; try simp -dsimp -implicitDefEqProofs only [go_sem, ↓reduceIte, Nat.reduceEqDiff, Nat.reduceLT, Nat.reduceAdd, Nat.reduceMul, Nat.reduceLeDiff, Nat.le_refl, Int.natCast_zero, Int.toNat_natCast, Int.reduceToNat, *])
    | (refine sCallX_one (c_l33Marks l d k3 hd h2) ?_; try simp -dsimp -implicitDefEqProofs only [go_sem, ↓reduceIte, Nat.reduceEqDiff, Nat.reduceLT, Nat.reduceAdd, Nat.reduceMul, Nat.reduceLeDiff, Nat.le_refl, Int.natCast_zero, Int.toNat_natCast, Int.reduceToNat, *])
    | (refine Later.draw mixed rfl ?_; try simp -dsimp -implicitDefEqProofs only [go_sem, ↓reduceIte, Nat.reduceEqDiff, Nat.reduceLT, Nat.reduceAdd, Nat.reduceMul, Nat.reduceLeDiff, Nat.le_refl, Int.natCast_zero, Int.toNat_natCast, Int.reduceToNat, *])
    all_goals first
      | omega | (refine ⟨?_, ?_⟩ <;> omega) | (simp; done) | (simp; omega)
      | rfl
      | (simp_all [marksOf]; done)
      | (simp_all [marksOf]; omega)
      | trace_state
  · simp -dsimp -implicitDefEqProofs only [go_sem, ↓reduceIte, Nat.reduceEqDiff, Nat.reduceLT, Nat.reduceAdd, Nat.reduceMul, Nat.reduceLeDiff, Nat.le_refl, Int.natCast_zero, Int.toNat_natCast, Int.reduceToNat]
    repeat' first
    | (refine Br.intro (fun _ => ?_) (fun _ => ?_) <;> try simp -dsimp -implicitDefEqProofs only [go_sem, ↓reduceIte, Nat.reduceEqDiff, Nat.reduceLT, Nat.reduceAdd, Nat.reduceMul, Nat.reduceLeDiff, Nat.le_refl, Int.natCast_zero, Int.toNat_natCast, Int.reduceToNat, *])
    | (with_reducible refine And.intro ?_ ?_)
    | (refine sCallT_one (c_l33Code m l d h h2 hd) ?_; try simp -dsimp -implicitDefEqProofs only [go_sem, ↓reduceIte, Nat.reduceEqDiff, Nat.reduceLT, Nat.reduceAdd, Nat.reduceMul, Nat.reduceLeDiff, Nat.le_refl, Int.natCast_zero, Int.toNat_natCast, Int.reduceToNat, *])
    all_goals first
      | omega | (refine ⟨?_, ?_⟩ <;> omega) | (simp; done) | (simp; omega)
      | rfl
      | (simp_all [marksOf]; done)
      | trace_state
theorem c_iMarksOf (m : MkM) (l : List (List Int)) (d : List Int) (h : l.length ≤ 1048576) (h2 : ∀ x ∈ l, x.length ≤ 1048576) (hd : d.length ≤ 1048576) : Fn Try.prog 34 [eMk m, eLk l, eIs d] true (· = .tup [eIs (marksOf m l d).1, eI (marksOf m l d).2]) := by
  refine Fn.of_vcN 19 [.tmp 6, .tmp 7] Try.func34 rfl rfl rfl rfl rfl (of_decide_eq_true rfl) ?_
  by_cases hb : impCode m l d = 0
  · obtain ⟨k1, k2, k3⟩ := impCode_zero hb
    obtain ⟨q1, q2, q3⟩ := blank_ok k1
    simp -dsimp -implicitDefEqProofs only [go_sem, ↓reduceIte, Nat.reduceEqDiff, Nat.reduceLT, Nat.reduceAdd, Nat.reduceMul, Nat.reduceLeDiff, Nat.le_refl, Int.natCast_zero, Int.toNat_natCast, Int.reduceToNat]
    repeat' first
    | (refine Br.intro (fun _ => ?_) (fun _ => ?_) <;> try simp -dsimp -implicitDefEqProofs only [go_sem, ↓reduceIte, Nat.reduceEqDiff, Nat.reduceLT, Nat.reduceAdd, Nat.reduceMul, Nat.reduceLeDiff, Nat.le_refl, Int.natCast_zero, Int.toNat_natCast, Int.reduceToNat, *])
    | (with_reducible refine And.intro ?_ ?_)
    | (refine sCallT_one (c_depthsCode m l d 1 h h2 hd) ?_; rw [depCode_one]; try simp -dsimp -implicitDefEqProofs only [go_sem, ↓reduceIte, Nat.reduceEqDiff, Nat.reduceLT, Nat.reduceAdd, Nat.reduceMul, Nat.reduceLeDiff, Nat.le_refl, Int.natCast_zero, Int.toNat_natCast, Int.reduceToNat, *])
    | (refine sCallT_one (c_marksOf l d k3 hd h2) ?_; try simp -dsimp -implicitDefEqProofs only [go_sem, ↓reduceIte, Nat.reduceEqDiff, Nat.reduceLT, Nat.reduceAdd, Nat.reduceMul, Nat.reduceLeDiff, Nat.le_refl, Int.natCast_zero, Int.toNat_natCast, Int.reduceToNat, *])
    | (refine sCallX_one (c_marksOf l d k3 hd h2) ?_; try simp -dsimp -implicitDefEqProofs only [go_sem, ↓reduceIte, Nat.reduceEqDiff, Nat.reduceLT, Nat.reduceAdd, Nat.reduceMul, Nat.reduceLeDiff, Nat.le_refl, Int.natCast_zero, Int.toNat_natCast, Int.reduceToNat, *])
    | (refine Later.draw mixed rfl ?_; try simp -dsimp -implicitDefEqProofs only [go_sem, ↓reduceIte, Nat.reduceEqDiff, Nat.reduceLT, Nat.reduceAdd, Nat.reduceMul, Nat.reduceLeDiff, Nat.le_refl, Int.natCast_zero, Int.toNat_natCast, Int.reduceToNat, *])
    all_goals first
      | omega | (refine ⟨?_, ?_⟩ <;> omega) | (simp; done) | (simp; omega)
      | rfl
      | (simp_all [marksOf]; done)
      | (simp_all [marksOf]; omega)
      | trace_state
  · simp -dsimp -implicitDefEqProofs only [go_sem, ↓reduceIte, Nat.reduceEqDiff, Nat.reduceLT, Nat.reduceAdd, Nat.reduceMul, Nat.reduceLeDiff, Nat.le_refl, Int.natCast_zero, Int.toNat_natCast, Int.reduceToNat]
    repeat' first
    | (refine Br.intro (fun _ => ?_) (fun _ => ?_) <;> try simp -dsimp -implicitDefEqProofs only [go_sem, ↓reduceIte, Nat.reduceEqDiff, Nat.reduceLT, Nat.reduceAdd, Nat.reduceMul, Nat.reduceLeDiff, Nat.le_refl, Int.natCast_zero, Int.toNat_natCast, Int.reduceToNat, *])
    | (with_reducible refine And.intro ?_ ?_)
    | (refine sCallT_one (c_depthsCode m l d 1 h h2 hd) ?_; rw [depCode_one]; try simp -dsimp -implicitDefEqProofs only [go_sem, ↓reduceIte, Nat.reduceEqDiff, Nat.reduceLT, Nat.reduceAdd, Nat.reduceMul, Nat.reduceLeDiff, Nat.le_refl, Int.natCast_zero, Int.toNat_natCast, Int.reduceToNat, *])
    all_goals first
      | omega | (refine ⟨?_, ?_⟩ <;> omega) | (simp; done) | (simp; omega)
      | rfl
      | (simp_all [marksOf]; done)
      | trace_state
theorem c_sIsFinished (m : MkM) (l : List (List Int)) (d : List Int) (h : l.length ≤ 1048576) (h2 : ∀ x ∈ l, x.length ≤ 1048576) (hd : d.length ≤ 1048576) : Fn Try.prog 38 [eMk m, eLk l, eIs d] true (· = .tup [eB (isFinished m l d).1, eI (isFinished m l d).2]) := by
  refine Fn.of_vcN 21 [.tmp 6, .tmp 7] Try.func38 rfl rfl rfl rfl rfl (of_decide_eq_true rfl) ?_
  by_cases hb : impCode m l d = 0
  · obtain ⟨k1, k2, k3⟩ := impCode_zero hb
    obtain ⟨q1, q2, q3⟩ := blank_ok k1
    simp -dsimp -implicitDefEqProofs only [go_sem, ↓reduceIte, Nat.reduceEqDiff, Nat.reduceLT, Nat.reduceAdd, Nat.reduceMul, Nat.reduceLeDiff, Nat.le_refl, Int.natCast_zero, Int.toNat_natCast, Int.reduceToNat]
    repeat' first
    | (refine Br.intro (fun _ => ?_) (fun _ => ?_) <;> try simp -dsimp -implicitDefEqProofs only [go_sem, ↓reduceIte, Nat.reduceEqDiff, Nat.reduceLT, Nat.reduceAdd, Nat.reduceMul, Nat.reduceLeDiff, Nat.le_refl, Int.natCast_zero, Int.toNat_natCast, Int.reduceToNat, *])
    | (with_reducible refine And.intro ?_ ?_)
    | (refine sCallT_one (c_l33Code m l d h h2 hd) ?_; try simp -dsimp -implicitDefEqProofs only [go_sem, ↓reduceIte, Nat.reduceEqDiff, Nat.reduceLT, Nat.reduceAdd, Nat.reduceMul, Nat.reduceLeDiff, Nat.le_refl, Int.natCast_zero, Int.toNat_natCast, Int.reduceToNat, *])
    | (refine sCallT_one (c_l33Marks l d k3 hd h2) ?_; try simp -dsimp -implicitDefEqProofs only [go_sem, ↓reduceIte, Nat.reduceEqDiff, Nat.reduceLT, Nat.reduceAdd, Nat.reduceMul, Nat.reduceLeDiff, Nat.le_refl, Int.natCast_zero, Int.toNat_natCast, Int.reduceToNat, *])
    | (refine sCallX_one (c_l33Marks l d k3 hd h2) ?_; try simp -dsimp -implicitDefEqProofs only [go_sem, ↓reduceIte, Nat.reduceEqDiff, Nat.reduceLT, Nat.reduceAdd, Nat.reduceMul, Nat.reduceLeDiff, Nat.le_refl, Int.natCast_zero, Int.toNat_natCast, Int.reduceToNat, *])
    | (refine Later.draw mixed rfl ?_; try simp -dsimp -implicitDefEqProofs only [go_sem, ↓reduceIte, Nat.reduceEqDiff, Nat.reduceLT, Nat.reduceAdd, Nat.reduceMul, Nat.reduceLeDiff, Nat.le_refl, Int.natCast_zero, Int.toNat_natCast, Int.reduceToNat, *])
    all_goals first
      | omega | (refine ⟨?_, ?_⟩ <;> omega) | (simp; done) | (simp; omega)
      | rfl
      | (simp_all [isFinished]; done)
      | (simp_all [isFinished]; omega)
      | trace_state
  · simp -dsimp -implicitDefEqProofs only [go_sem, ↓reduceIte, Nat.reduceEqDiff, Nat.reduceLT, Nat.reduceAdd, Nat.reduceMul, Nat.reduceLeDiff, Nat.le_refl, Int.natCast_zero, Int.toNat_natCast, Int.reduceToNat]
    repeat' first
    | (refine Br.intro (fun _ => ?_) (fun _ => ?_) <;> try simp -dsimp -implicitDefEqProofs only [go_sem, ↓reduceIte, Nat.reduceEqDiff, Nat.reduceLT, Nat.reduceAdd, Nat.reduceMul, Nat.reduceLeDiff, Nat.le_refl, Int.natCast_zero, Int.toNat_natCast, Int.reduceToNat, *])
    | (with_reducible refine And.intro ?_ ?_)
    | (refine sCallT_one (c_l33Code m l d h h2 hd) ?_; try simp -dsimp -implicitDefEqProofs only [go_sem, ↓reduceIte, Nat.reduceEqDiff, Nat.reduceLT, Nat.reduceAdd, Nat.reduceMul, Nat.reduceLeDiff, Nat.le_refl, Int.natCast_zero, Int.toNat_natCast, Int.reduceToNat, *])
    all_goals first
      | omega | (refine ⟨?_, ?_⟩ <;> omega) | (simp; done) | (simp; omega)
      | rfl
      | (simp_all [isFinished]; done)
      | trace_state
theorem c_iIsFinished (m : MkM) (l : List (List Int)) (d : List Int) (h : l.length ≤ 1048576) (h2 : ∀ x ∈ l, x.length ≤ 1048576) (hd : d.length ≤ 1048576) : Fn Try.prog 31 [eMk m, eLk l, eIs d] true (· = .tup [eB (isFinished m l d).1, eI (isFinished m l d).2]) := by
  refine Fn.of_vcN 21 [.tmp 6, .tmp 7] Try.func31 rfl rfl rfl rfl rfl (of_decide_eq_true rfl) ?_
  by_cases hb : impCode m l d = 0
  · obtain ⟨k1, k2, k3⟩ := impCode_zero hb
    obtain ⟨q1, q2, q3⟩ := blank_ok k1
    simp -dsimp -implicitDefEqProofs only [go_sem, ↓reduceIte, Nat.reduceEqDiff, Nat.reduceLT, Nat.reduceAdd, Nat.reduceMul, Nat.reduceLeDiff, Nat.le_refl, Int.natCast_zero, Int.toNat_natCast, Int.reduceToNat]
    repeat' first
    | (refine Br.intro (fun _ => ?_) (fun _ => ?_) <;> try simp -dsimp -implicitDefEqProofs only [go_sem, ↓reduceIte, Nat.reduceEqDiff, Nat.reduceLT, Nat.reduceAdd, Nat.reduceMul, Nat.reduceLeDiff, Nat.le_refl, Int.natCast_zero, Int.toNat_natCast, Int.reduceToNat, *])
    | (with_reducible refine And.intro ?_ ?_)
    | (refine sCallT_one (c_depthsCode m l d 1 h h2 hd) ?_; rw [depCode_one]; try simp -dsimp -implicitDefEqProofs only [go_sem, ↓reduceIte, Nat.reduceEqDiff, Nat.reduceLT, Nat.reduceAdd, Nat.reduceMul, Nat.reduceLeDiff, Nat.le_refl, Int.natCast_zero, Int.toNat_natCast, Int.reduceToNat, *])
    | (refine sCallT_one (c_marksOf l d k3 hd h2) ?_; try simp -dsimp -implicitDefEqProofs only [go_sem, ↓reduceIte, Nat.reduceEqDiff, Nat.reduceLT, Nat.reduceAdd, Nat.reduceMul, Nat.reduceLeDiff, Nat.le_refl, Int.natCast_zero, Int.toNat_natCast, Int.reduceToNat, *])
    | (refine sCallX_one (c_marksOf l d k3 hd h2) ?_; try simp -dsimp -implicitDefEqProofs only [go_sem, ↓reduceIte, Nat.reduceEqDiff, Nat.reduceLT, Nat.reduceAdd, Nat.reduceMul, Nat.reduceLeDiff, Nat.le_refl, Int.natCast_zero, Int.toNat_natCast, Int.reduceToNat, *])
    | (refine Later.draw mixed rfl ?_; try simp -dsimp -implicitDefEqProofs only [go_sem, ↓reduceIte, Nat.reduceEqDiff, Nat.reduceLT, Nat.reduceAdd, Nat.reduceMul, Nat.reduceLeDiff, Nat.le_refl, Int.natCast_zero, Int.toNat_natCast, Int.reduceToNat, *])
    all_goals first
      | omega | (refine ⟨?_, ?_⟩ <;> omega) | (simp; done) | (simp; omega)
      | rfl
      | (simp_all [isFinished]; done)
      | (simp_all [isFinished]; omega)
      | trace_state
  · simp -dsimp -implicitDefEqProofs only [go_sem, ↓reduceIte, Nat.reduceEqDiff, Nat.reduceLT, Nat.reduceAdd, Nat.reduceMul, Nat.reduceLeDiff, Nat.le_refl, Int.natCast_zero, Int.toNat_natCast, Int.reduceToNat]
    repeat' first
    | (refine Br.intro (fun _ => ?_) (fun _ => ?_) <;> try simp -dsimp -implicitDefEqProofs only [go_sem, ↓reduceIte, Nat.reduceEqDiff, Nat.reduceLT, Nat.reduceAdd, Nat.reduceMul, Nat.reduceLeDiff, Nat.le_refl, Int.natCast_zero, Int.toNat_natCast, Int.reduceToNat, *])
    | (with_reducible refine And.intro ?_ ?_)
    | (refine sCallT_one (c_depthsCode m l d 1 h h2 hd) ?_; rw [depCode_one]; try simp -dsimp -implicitDefEqProofs only [go_sem, ↓reduceIte, Nat.reduceEqDiff, Nat.reduceLT, Nat.reduceAdd, Nat.reduceMul, Nat.reduceLeDiff, Nat.le_refl, Int.natCast_zero, Int.toNat_natCast, Int.reduceToNat, *])
    all_goals first
      | omega | (refine ⟨?_, ?_⟩ <;> omega) | (simp; done) | (simp; omega)
      | rfl
      | (simp_all [isFinished]; done)
      | trace_state
theorem c_sSpoiltChambers (m : MkM) (l : List (List Int)) (d : List Int) (h : l.length ≤ 1048576) (h2 : ∀ x ∈ l, x.length ≤ 1048576) (hd : d.length ≤ 1048576) : Fn Try.prog 37 [eMk m, eLk l, eIs d] true (· = .tup [eIs (spoiltChambers m l d).1, eI (spoiltChambers m l d).2]) := by
  refine Fn.of_vcN 19 [.tmp 6, .tmp 7] Try.func37 rfl rfl rfl rfl rfl (of_decide_eq_true rfl) ?_
  by_cases hb : impCode m l d = 0
  · obtain ⟨k1, k2, k3⟩ := impCode_zero hb
    obtain ⟨q1, q2, q3⟩ := blank_ok k1
    simp -dsimp -implicitDefEqProofs only [go_sem, ↓reduceIte, Nat.reduceEqDiff, Nat.reduceLT, Nat.reduceAdd, Nat.reduceMul, Nat.reduceLeDiff, Nat.le_refl, Int.natCast_zero, Int.toNat_natCast, Int.reduceToNat]
    repeat' first
    | (refine Br.intro (fun _ => ?_) (fun _ => ?_) <;> try simp -dsimp -implicitDefEqProofs only [go_sem, ↓reduceIte, Nat.reduceEqDiff, Nat.reduceLT, Nat.reduceAdd, Nat.reduceMul, Nat.reduceLeDiff, Nat.le_refl, Int.natCast_zero, Int.toNat_natCast, Int.reduceToNat, *])
    | (with_reducible refine And.intro ?_ ?_)
    | (refine sCallT_one (c_l33Code m l d h h2 hd) ?_; try simp -dsimp -implicitDefEqProofs only [go_sem, ↓reduceIte, Nat.reduceEqDiff, Nat.reduceLT, Nat.reduceAdd, Nat.reduceMul, Nat.reduceLeDiff, Nat.le_refl, Int.natCast_zero, Int.toNat_natCast, Int.reduceToNat, *])
    | (refine sCallT_one (c_l33Spoilt l d k3 hd h2 q1) ?_; try simp -dsimp -implicitDefEqProofs only [go_sem, ↓reduceIte, Nat.reduceEqDiff, Nat.reduceLT, Nat.reduceAdd, Nat.reduceMul, Nat.reduceLeDiff, Nat.le_refl, Int.natCast_zero, Int.toNat_natCast, Int.reduceToNat, *])
    | (refine sCallX_one (c_l33Spoilt l d k3 hd h2 q1) ?_; try simp -dsimp -implicitDefEqProofs only [go_sem, ↓reduceIte, Nat.reduceEqDiff, Nat.reduceLT, Nat.reduceAdd, Nat.reduceMul, Nat.reduceLeDiff, Nat.le_refl, Int.natCast_zero, Int.toNat_natCast, Int.reduceToNat, *])
    | (refine Later.draw mixed rfl ?_; try simp -dsimp -implicitDefEqProofs only [go_sem, ↓reduceIte, Nat.reduceEqDiff, Nat.reduceLT, Nat.reduceAdd, Nat.reduceMul, Nat.reduceLeDiff, Nat.le_refl, Int.natCast_zero, Int.toNat_natCast, Int.reduceToNat, *])
    all_goals first
      | omega | (refine ⟨?_, ?_⟩ <;> omega) | (simp; done) | (simp; omega)
      | rfl
      | (simp_all [spoiltChambers]; done)
      | (simp_all [spoiltChambers]; omega)
      | trace_state
  · simp -dsimp -implicitDefEqProofs only [go_sem, ↓reduceIte, Nat.reduceEqDiff, Nat.reduceLT, Nat.reduceAdd, Nat.reduceMul, Nat.reduceLeDiff, Nat.le_refl, Int.natCast_zero, Int.toNat_natCast, Int.reduceToNat]
    repeat' first
    | (refine Br.intro (fun _ => ?_) (fun _ => ?_) <;> try simp -dsimp -implicitDefEqProofs only [go_sem, ↓reduceIte, Nat.reduceEqDiff, Nat.reduceLT, Nat.reduceAdd, Nat.reduceMul, Nat.reduceLeDiff, Nat.le_refl, Int.natCast_zero, Int.toNat_natCast, Int.reduceToNat, *])
    | (with_reducible refine And.intro ?_ ?_)
    | (refine sCallT_one (c_l33Code m l d h h2 hd) ?_; try simp -dsimp -implicitDefEqProofs only [go_sem, ↓reduceIte, Nat.reduceEqDiff, Nat.reduceLT, Nat.reduceAdd, Nat.reduceMul, Nat.reduceLeDiff, Nat.le_refl, Int.natCast_zero, Int.toNat_natCast, Int.reduceToNat, *])
    all_goals first
      | omega | (refine ⟨?_, ?_⟩ <;> omega) | (simp; done) | (simp; omega)
      | rfl
      | (simp_all [spoiltChambers]; done)
      | trace_state
theorem c_iSpoiltChambers (m : MkM) (l : List (List Int)) (d : List Int) (h : l.length ≤ 1048576) (h2 : ∀ x ∈ l, x.length ≤ 1048576) (hd : d.length ≤ 1048576) : Fn Try.prog 36 [eMk m, eLk l, eIs d] true (· = .tup [eIs (spoiltChambers m l d).1, eI (spoiltChambers m l d).2]) := by
  refine Fn.of_vcN 19 [.tmp 6, .tmp 7] Try.func36 rfl rfl rfl rfl rfl (of_decide_eq_true rfl) ?_
  by_cases hb : impCode m l d = 0
  · obtain ⟨k1, k2, k3⟩ := impCode_zero hb
    obtain ⟨q1, q2, q3⟩ := blank_ok k1
    simp -dsimp -implicitDefEqProofs only [go_sem, ↓reduceIte, Nat.reduceEqDiff, Nat.reduceLT, Nat.reduceAdd, Nat.reduceMul, Nat.reduceLeDiff, Nat.le_refl, Int.natCast_zero, Int.toNat_natCast, Int.reduceToNat]
    repeat' first
    | (refine Br.intro (fun _ => ?_) (fun _ => ?_) <;> try simp -dsimp -implicitDefEqProofs only [go_sem, ↓reduceIte, Nat.reduceEqDiff, Nat.reduceLT, Nat.reduceAdd, Nat.reduceMul, Nat.reduceLeDiff, Nat.le_refl, Int.natCast_zero, Int.toNat_natCast, Int.reduceToNat, *])
    | (with_reducible refine And.intro ?_ ?_)
    | (refine sCallT_one (c_depthsCode m l d 1 h h2 hd) ?_; rw [depCode_one]; try simp -dsimp -implicitDefEqProofs only [go_sem, ↓reduceIte, Nat.reduceEqDiff, Nat.reduceLT, Nat.reduceAdd, Nat.reduceMul, Nat.reduceLeDiff, Nat.le_refl, Int.natCast_zero, Int.toNat_natCast, Int.reduceToNat, *])
    | (refine sCallT_one (c_spoilt l d k3 hd h2 q1) ?_; try simp -dsimp -implicitDefEqProofs only [go_sem, ↓reduceIte, Nat.reduceEqDiff, Nat.reduceLT, Nat.reduceAdd, Nat.reduceMul, Nat.reduceLeDiff, Nat.le_refl, Int.natCast_zero, Int.toNat_natCast, Int.reduceToNat, *])
    | (refine sCallX_one (c_spoilt l d k3 hd h2 q1) ?_; try simp -dsimp -implicitDefEqProofs only [go_sem, ↓reduceIte, Nat.reduceEqDiff, Nat.reduceLT, Nat.reduceAdd, Nat.reduceMul, Nat.reduceLeDiff, Nat.le_refl, Int.natCast_zero, Int.toNat_natCast, Int.reduceToNat, *])
    | (refine Later.draw mixed rfl ?_; try simp -dsimp -implicitDefEqProofs only [go_sem, ↓reduceIte, Nat.reduceEqDiff, Nat.reduceLT, Nat.reduceAdd, Nat.reduceMul, Nat.reduceLeDiff, Nat.le_refl, Int.natCast_zero, Int.toNat_natCast, Int.reduceToNat, *])
    all_goals first
      | omega | (refine ⟨?_, ?_⟩ <;> omega) | (simp; done) | (simp; omega)
      | rfl
      | (simp_all [spoiltChambers]; done)
      | (simp_all [spoiltChambers]; omega)
      | trace_state
  · simp -dsimp -implicitDefEqProofs only [go_sem, ↓reduceIte, Nat.reduceEqDiff, Nat.reduceLT, Nat.reduceAdd, Nat.reduceMul, Nat.reduceLeDiff, Nat.le_refl, Int.natCast_zero, Int.toNat_natCast, Int.reduceToNat]
    repeat' first
    | (refine Br.intro (fun _ => ?_) (fun _ => ?_) <;> try simp -dsimp -implicitDefEqProofs only [go_sem, ↓reduceIte, Nat.reduceEqDiff, Nat.reduceLT, Nat.reduceAdd, Nat.reduceMul, Nat.reduceLeDiff, Nat.le_refl, Int.natCast_zero, Int.toNat_natCast, Int.reduceToNat, *])
    | (with_reducible refine And.intro ?_ ?_)
    | (refine sCallT_one (c_depthsCode m l d 1 h h2 hd) ?_; rw [depCode_one]; try simp -dsimp -implicitDefEqProofs only [go_sem, ↓reduceIte, Nat.reduceEqDiff, Nat.reduceLT, Nat.reduceAdd, Nat.reduceMul, Nat.reduceLeDiff, Nat.le_refl, Int.natCast_zero, Int.toNat_natCast, Int.reduceToNat, *])
    all_goals first
      | omega | (refine ⟨?_, ?_⟩ <;> omega) | (simp; done) | (simp; omega)
      | rfl
      | (simp_all [spoiltChambers]; done)
      | trace_state
end Go.Vc

