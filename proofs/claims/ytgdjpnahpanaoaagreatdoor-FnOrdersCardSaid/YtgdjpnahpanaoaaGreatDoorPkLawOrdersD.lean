import Derived.Shelf.Strconv.Itoa4
import Derived.Shelf.Strconv.ParseIntPublic10
import Derived.Shelf.Strings.Split
import Derived.Shelf.Strings.Cut
import Derived.Shelf.Strings.OnBuilder
import Derived.Shelf.Strings.Repeat
import Derived.Ground.NamesProg
import Derived.Test.YtgdjpnahpanaoaaGreatDoorProg
import Derived.Sort.Grow
import Derived.Laws.IdiomCopy
import Derived.Deep.Draws
import Derived.Lib.ItoaLen
import Derived.Lib.ItoaMem
import Derived.Lib.ParseIntB
import Derived.Lib.Split
import Derived.Lib.CountLaws
import Derived.Lib.IndexBytes
import Derived.Lib.CutLaws
import Derived.Lib.Join
import Derived.Lib.SlicesCompact
import Derived.Shelf.RegionOpenPlain
import Derived.Deep.LoopGhost
import Derived.Deep.RegionLaw
import Derived.Lib.Walk
import Derived.Lib.SliceRun
import Derived.Test.YtgdjpnahpanaoaaGreatDoorPkLawOrdersC
open Bool renaming false_eq_true → uq0, or_false → uq1
open List renaming cons_append → uq2, nil_append → uq3
set_option linter.unusedVariables false
set_option linter.unusedSimpArgs false
set_option linter.unnecessarySimpa false
namespace Go.Vc

def FnMR (P : Program) (f : FuncId) (io : List Blk) (args : List AV) (post : AV → List Blk → Prop) : Prop :=
  Enters P f ∧ ∀ (w : World) (φ : Nat → LS) (fp : Nat → List Nat) (S : Nat → Prop) (vs : Array Value), vs.size = args.length →
    RS (ioB w φ fp S io) vs.size φ fp S (argsE 0 args) (ioM 0 io) { tmps := vs, defers := [] } w →
    Calls P f vs w fun e w' => ∃ r v io' φ' fp' S' m', e = .returned v ∧ post r io' ∧ RS (ioB w φ fp S io) 0 φ' fp' S' [] m' { tmps := #[], defers := [] } w' ∧ IoOk io io' m' ∧ Rd w' S' r v

def finMR (P : Program) (rs : List ResultVar) (vers : List Nat) (post : AV → List Blk → Prop) : Post
  | .normal => fun ts m => sResults P (fun xs => sGivAs (fun ys m' => labsL ys = [] ∧ sIoB m' (fun io' => post (mkRes ys) io') 0 vers []) [] m xs) rs ts m []
  | .ret => fun ts m => sResults P (fun xs => sGivAs (fun ys m' => labsL ys = [] ∧ sIoB m' (fun io' => post (mkRes ys) io') 0 vers []) [] m xs) rs ts m []
  | _ => fun _ _ => False
theorem finMR_ret (P : Program) (rs : List ResultVar) (vers : List Nat) (post : AV → List Blk → Prop) (ts : Env) (m : Mem) :
    finMR P rs vers post .ret ts m = sResults P (fun xs => sGivAs (fun ys m' => labsL ys = [] ∧ sIoB m' (fun io' => post (mkRes ys) io') 0 vers []) [] m xs) rs ts m [] := rfl

theorem FnMR.of_vc' {P : Program} {f : FuncId} {fn : Func} {c : Code} {io : List Blk} {args : List AV} {post : AV → List Blk → Prop} (hf : P.funcs[f]? = some fn) (hn : (fn.name == "runtime.NumGoroutine") = false) (hb : fn.body = some c)
    (hok : codeOk fn.ntmps c = true) (ha : args.length ≤ fn.ntmps) (hv : vc P fn.ntmps c (argsE 0 args) (ioM 0 io) (finMR P fn.results.toList (io.map Blk.ver) post)) : FnMR P f io args post := by
  refine ⟨⟨fn, c, hf, hn, hb⟩, fun w φ fp S vs hsz hR0 => ?_⟩
  refine calls_of_wp hf hb ?_
  have hRS : RS (ioB w φ fp S io) fn.ntmps φ fp S (argsE 0 args) (ioM 0 io) { tmps := vs ++ Array.replicate (fn.ntmps - vs.size) undef, defers := [] } w := by
    refine { hR0 with tm := fun t => ?_, defers := rfl, tsz := by simp; omega }
    by_cases h : t < args.length
    · have h1 := hR0.tm t
      have : vs.getD t Go.undef = (vs ++ Array.replicate (fn.ntmps - vs.size) undef).getD t Go.undef := by
        have h2 : t < vs.size := by omega
        simp only [Array.getD_eq_getD_getElem?]
        rw [Array.getElem?_append_left h2]
      rw [← this]; exact h1
    · rw [look_argsE]
      have : (if 0 ≤ t then (args[t - 0]?).getD AV.undef else .undef) = .undef := by simp [List.getElem?_eq_none (show args.length ≤ t by omega)]
      rw [this]; exact .rd _ _ (.undef _)
  have hend : ∀ a' w', Done (ioB w φ fp S io) fn.ntmps (fun ts m => sResults P (fun xs => sGivAs (fun ys m' => labsL ys = [] ∧ sIoB m' (fun io' => post (mkRes ys) io') 0 (io.map Blk.ver) []) [] m xs) fn.results.toList ts m []) a' w' →
      a'.defers = [] ∧ ∃ v, (results fn a'.tmps).run P w' = .ok v w' ∧ ∃ r v' io' φ' fp' S' m', Ending.returned v = .returned v' ∧ post r io' ∧ RS (ioB w φ fp S io) 0 φ' fp' S' [] m' { tmps := #[], defers := [] } w' ∧ IoOk io io' m' ∧
        Rd w' S' r v' := by
    rintro a' w' ⟨φ0, fp0, S0, ts', m0, h0, hk⟩
    refine ⟨h0.defers, ?_⟩
    obtain ⟨ys0, us, h1, h2, h3, h4⟩ := results_out' h0 fn.results.toList [] [] ⟨rfl, fun i hi => absurd hi (Nat.not_lt_zero _)⟩ (fun i hi => absurd hi (Nat.not_lt_zero _)) hk
    obtain ⟨φ', fp', S', m', ys, hgv, h3, hlab, h1⟩ := givAs_out ys0 us [] [] h0 (by simpa using h3) ⟨rfl, fun i hi => absurd hi (Nat.not_lt_zero _)⟩ h1
    have h' := hgv.rs
    obtain ⟨h3a, h3b⟩ := h3
    simp only [uq3] at h3a h3b
    obtain ⟨io', q1, q2, q3⟩ := sIo_out _ _ _ h1
    rw [List.reverse_nil, uq3] at q1
    refine ⟨if h : us.toArray.size = 1 then us.toArray[0] else .tuple us.toArray, ?_, mkRes ys, _, io', φ', fp', S', m', rfl, q1, ?_, ⟨by simpa using q2, fun k hk hk' => ?_⟩, rd_of_rv (mkRes_rv h3a h3b) (labs_mkRes hlab)⟩
    · have hm : results fn a'.tmps = (do let vs ← fn.results.mapM (resOne a'.tmps); pure (if h : vs.size = 1 then vs[0] else .tuple vs)) := by
        unfold results
        congr 1
      rw [hm, Sem.run_bind, Array.mapM_eq_mapM_toList]
      have : (List.toArray <$> fn.results.toList.mapM (resOne a'.tmps) : Sem (Array Value)).run P w' = .ok us.toArray w' := by
        rw [map_eq_pure_bind, Sem.run_bind, h2]; rfl
      rw [this]; rfl
    · exact { h' with tm := fun t => by rw [look_nil]; exact .rd _ _ (.undef _), tl := fun t l ver hl => (by rw [look_nil] at hl; cases hl), defers := rfl, tsz := rfl }
    · have := q3 k hk (by simpa using hk')
      rw [Nat.zero_add] at this
      refine ⟨this.1, ?_, this.2.2⟩
      rw [this.2.1, List.getElem_map]
  refine wp_mono (vc_sound c _ _ _ hok hv _ _ _ _ _ _ hRS) ?_
  intro e a' w' hq
  cases e with
  | normal => exact hend a' w' hq
  | ret => exact hend a' w' hq
  | _ => obtain ⟨_, _, _, _, _, _, hh⟩ := hq; exact hh.elim
theorem FnMR.of_vc {P : Program} {f : FuncId} {fn : Func} {c : Code} {io : List Blk} {args : List AV} {post : AV → List Blk → Prop} (N : Nat) (rs : List ResultVar) (hf : P.funcs[f]? = some fn) (hN : fn.ntmps = N) (hr : fn.results.toList = rs)
    (hn : (fn.name == "runtime.NumGoroutine") = false) (hb : fn.body = some c) (hok : codeOk N c = true) (ha : args.length ≤ N) (hv : vc P N c (argsE 0 args) (ioM 0 io) (finMR P rs (io.map Blk.ver) post)) : FnMR P f io args post := by
  subst hN; subst hr; exact FnMR.of_vc' hf hn hb hok ha hv

section
variable {P : Program} {B : Base} {N : Nat} {φ : Nat → LS} {fp : Nat → List Nat} {S : Nat → Prop} {ts : Env} {m : Mem} {a : Act} {w : World}
theorem callMR_core {f : FuncId} {ρ : List Nat} {io : List Blk} {args xs : List AV} (hnd : ρ.Nodup) (hio : io.length = ρ.length)
    (hlk : ∀ j (h : j < ρ.length) (h' : j < io.length), lookB m ρ[j] = some io[j] ∧ labFree io[j]) {vs : Array Value} (h : RS B N φ fp S ts m a w) (hvl : vs.size = args.length)
    (hx : ∀ i (h : i < args.length), RV w S (φio φ ρ) args[i] (vs.toList.getD i Go.undef) ∧ ∀ l ver, (l, ver) ∈ labs args[i] → known (ioM 0 io) l ver) {post : AV → List Blk → Prop} (hf : FnMR P f io args post) :
    Calls P f vs w fun e w' => ∃ v r io' fp2 T, e = .returned v ∧ post r io' ∧ RS B N φ fp2 T ts (putIo ρ io' m) a w' ∧ Rd w' T r v := by
  have inj : ∀ i j (hi : i < ρ.length) (hj : j < ρ.length), ρ[i] = ρ[j] → i = j := fun i j hi hj e => (List.getElem_inj hnd).1 e
  have look0 : ∀ l, lookB (ioM 0 io) l = if ioL ≤ l then io[l - ioL]? else none := fun l => by rw [lookB_ioM]; rfl
  have at_ : ∀ l b, lookB (ioM 0 io) l = some b → ∃ j, ∃ hj : j < ρ.length, ∃ hj' : j < io.length, l = ioL + j ∧ b = io[j] := by
    intro l b hb
    rw [look0] at hb
    split at hb
    · rename_i hl
      obtain ⟨hj, e⟩ := List.getElem?_eq_some_iff.1 hb
      exact ⟨l - ioL, by omega, hj, by omega, e.symm⟩
    · cases hb
  have hR0 : RS (ioB w (φio φ ρ) (fpio fp ρ) S io) vs.size (φio φ ρ) (fpio fp ρ) S (argsE 0 args) (ioM 0 io) { tmps := vs, defers := [] } w := by
    refine { tm := fun t => ?_, tl := fun t l ver hl => ?_, mNone := fun l hl => ?_, mSome := fun l b hb => ?_, bl := fun l v xs hb l' ver hl => ?_, nod := fun l => ?_, dis := fun l l' b h1 h2 => ?_,
             notS := fun l b hb => ?_, fpB := fun l b hb => ?_, sB := fun b hb => ⟨(h.sB b hb).1, .inr hb⟩, base := fun b _ _ => rfl, out := SameOut.refl _, szs := Szs.refl _, kn := fun _ _ _ hk => hk, fix := fun _ _ _ _ => LS.le_refl _ _,
             size := Nat.le_refl _, defers := rfl, tsz := rfl, kon := h.kon }
    · rw [look_argsE]
      by_cases ht : t < args.length
      · have e : (if 0 ≤ t then (args[t - 0]?).getD AV.undef else .undef) = args[t] := by simp [ht]
        rw [e]
        have := (hx t ht).1
        have e2 : vs.toList.getD t Go.undef = vs.getD t Go.undef := by
          simp [List.getD_eq_getElem?_getD, Array.getD_eq_getD_getElem?]
        rw [← e2]; exact this
      · have e : (if 0 ≤ t then (args[t - 0]?).getD AV.undef else .undef) = .undef := by simp [List.getElem?_eq_none (show args.length ≤ t by omega)]
        rw [e]; exact .rd _ _ (.undef _)
    · rw [look_argsE] at hl
      by_cases ht : t < args.length
      · have e : (if 0 ≤ t then (args[t - 0]?).getD AV.undef else .undef) = args[t] := by simp [ht]
        rw [e] at hl
        exact (hx t ht).2 l ver hl
      · have e : (if 0 ≤ t then (args[t - 0]?).getD AV.undef else .undef) = .undef := by simp [List.getElem?_eq_none (show args.length ≤ t by omega)]
        rw [e] at hl; cases hl
    · rw [look0] at hl
      unfold φio fpio
      split at hl
      · rename_i hl'
        have : ρ[l - ioL]? = none := List.getElem?_eq_none (by have := List.getElem?_eq_none_iff.1 hl; omega)
        rw [if_pos hl', if_pos hl', this]; exact ⟨rfl, rfl⟩
      · rename_i hl'
        rw [if_neg hl', if_neg hl']; exact ⟨rfl, rfl⟩
    · obtain ⟨j, hj, hj', rfl, rfl⟩ := at_ l b hb
      have hb0 := h.mSome ρ[j] _ (hlk j hj hj').1
      have hfr := (hlk j hj hj').2
      rw [fpio_at fp hj]
      generalize io[j] = b at hb0 hfr
      cases b with
      | gone v => exact ⟨by rw [φio_at φ hj]; exact hb0.1, hb0.2⟩
      | row v sh dp xs =>
        rcases hb0 with ⟨q1, q2, q3⟩ | ⟨b, cap, q1, q2⟩
        · exact .inl ⟨by rw [φio_at φ hj]; exact q1, q2, q3⟩
        · exact .inr ⟨b, cap, by rw [φio_at φ hj]; exact q1, q2⟩
      | lent v xs i u => exact hfr.elim
      | sub v sh xs u => exact hfr.elim
      | box v xs =>
        obtain ⟨b, cs, e, sh, q1, q2, q3, q4, q5, q6⟩ := hb0
        exact ⟨b, cs, e, sh, by rw [φio_at φ hj]; exact q1, q2, q3, q4, q5, fun i hi => .rd _ _ (rd_of_rv (q6 i hi) (labs_nil_get hfr i hi))⟩
    · obtain ⟨j, hj, hj', rfl, e⟩ := at_ l _ hb
      have hfr := (hlk j hj hj').2
      rw [← e] at hfr
      have hfr : labsL xs = [] := hfr
      rw [hfr] at hl; cases hl
    · unfold fpio
      split
      · split
        · exact h.nod _
        · exact List.nodup_nil
      · exact List.nodup_nil
    · obtain ⟨i, hi, rfl, b1⟩ := fpio_mem h1
      obtain ⟨j, hj, rfl, b2⟩ := fpio_mem h2
      have := inj i j hi hj (h.dis _ _ b b1 b2)
      subst this; rfl
    · obtain ⟨i, hi, rfl, b1⟩ := fpio_mem hb
      exact h.notS _ b b1
    · obtain ⟨i, hi, rfl, b1⟩ := fpio_mem hb
      exact ⟨(h.fpB _ b b1).1, .inr ⟨_, hb, by omega, .inl rfl⟩⟩
  refine (hf.2 w (φio φ ρ) (fpio fp ρ) S vs hvl hR0).mono ?_
  rintro e w' ⟨r, v, io', φ', fp', S', m', rfl, hpost, hR, ⟨hl', hok⟩, hrd⟩
  have hl2 : io'.length = ρ.length := hl'.trans hio
  have hsame : ∀ b : Nat, b < w.heap.size → (∀ j (hj : j < ρ.length), b ∉ fp ρ[j]) → w'.heap[b]? = w.heap[b]? := fun b hb hn => hR.base b hb fun l hb' => by
    obtain ⟨j, hj, rfl, hb2⟩ := fpio_mem hb'
    exact hn j hj hb2
  have hSsame : ∀ b, S b → w'.heap[b]? = w.heap[b]? := fun b hb => hsame b (h.sB b hb).1 fun j hj hb' => h.notS _ b hb' hb
  have hz : Sized φ w w' := fun l b sh ver cs e _ hb => hR.szs b cs e hb
  have hm2 := fun l => lookB_putIo (m := m) ρ io' hl2 hnd l
  have hkn : ∀ l ver, known m l ver → known (putIo ρ io' m) l ver := by
    rintro l ver ⟨k', h1, h2⟩
    by_cases hl : l ∈ ρ
    · obtain ⟨j, hj, rfl⟩ := List.getElem_of_mem hl
      have e := (hm2 ρ[j]).1 j hj rfl
      rw [List.getElem?_eq_getElem (by omega)] at e
      rw [(hlk j hj (by omega)).1] at h1
      have h1 := Option.some.inj h1
      exact ⟨_, e, by rw [(hok j (by omega) (by omega)).2.1, h1]; exact h2⟩
    · exact ⟨k', ((hm2 l).2 hl).trans h1, h2⟩
  let T : Nat → Prop := fun b => S b ∨ (S' b ∧ w.heap.size ≤ b)
  have hST : ∀ b, S' b → T b := fun b hb => by
    rcases (hR.sB b hb).2 with hh | hh
    · exact .inr ⟨hb, hh⟩
    · exact .inl hh
  let fp2 : Nat → List Nat := fun l => match ρ.idxOf? l with | some j => fp' (ioL + j) | none => fp l
  have fp2in : ∀ j (hj : j < ρ.length), fp2 ρ[j] = fp' (ioL + j) := by
    intro j hj
    have : ρ.idxOf? ρ[j] = some j := by
      rw [List.idxOf?, List.findIdx?_eq_some_iff_getElem]
      refine ⟨hj, by simp, fun i hi => ?_⟩
      simp only [beq_iff_eq, Bool.not_eq_true, beq_eq_false_iff_ne, ne_eq]
      intro e2
      have := inj i j (by omega) hj e2
      omega
    show (match ρ.idxOf? ρ[j] with | some j => fp' (ioL + j) | none => fp ρ[j]) = _
    rw [this]
  have fp2out : ∀ l, l ∉ ρ → fp2 l = fp l := by
    intro l hl
    have : ρ.idxOf? l = none := by simpa [List.idxOf?_eq_none_iff] using hl
    show (match ρ.idxOf? l with | some j => fp' (ioL + j) | none => fp l) = _
    rw [this]
  have fpnew : ∀ j (hj : j < ρ.length) b, b ∈ fp' (ioL + j) → b < w'.heap.size ∧ (w.heap.size ≤ b ∨ b ∈ fp ρ[j]) := by
    intro j hj b hb
    have := hR.fpB _ b hb
    refine ⟨this.1, this.2.imp id fun hh => ?_⟩
    obtain ⟨l', hb2, _, hl3⟩ := hh
    have hl3 : l' = ioL + j := hl3.resolve_right fun e => by
      have e : lookB (ioM 0 io) (ioL + j) = none := e
      rw [look0, if_pos (by omega), List.getElem?_eq_none_iff] at e; omega
    subst hl3
    have hh : b ∈ fpio fp ρ (ioL + j) := hb2
    rwa [fpio_at fp hj] at hh
  have hRS : RS B N φ fp2 T ts (putIo ρ io' m) a w' := by
    refine { tm := fun t => (h.tm t).mono hSsame (fun b hb => .inl hb) hz fun l ver _ => LS.le_refl _ _, tl := fun t l ver hl => hkn l ver (h.tl t l ver hl), mNone := fun l hl => ?_, mSome := fun l b hb => ?_,
             bl := fun l v xs hb l' ver hl => ?_, nod := fun l => ?_, dis := fun l l' b h1 h2 => ?_, notS := fun l b hb => ?_, fpB := fun l b hb => ?_, sB := fun b hb => ?_, base := fun b hb hio => ?_,
             out := h.out.trans hR.out, szs := h.szs.trans hR.szs, kn := fun l ver hl hk => hkn l ver (h.kn l ver hl hk), fix := h.fix, size := Nat.le_trans h.size hR.size, defers := h.defers, tsz := h.tsz, kon := h.kon.mono hSsame fun b hb => .inl hb }
    · by_cases hm : l ∈ ρ
      · obtain ⟨j, hj, rfl⟩ := List.getElem_of_mem hm
        rw [(hm2 ρ[j]).1 j hj rfl, List.getElem?_eq_getElem (by omega)] at hl; cases hl
      · rw [(hm2 l).2 hm] at hl
        rw [fp2out l hm]; exact h.mNone l hl
    · by_cases hm : l ∈ ρ
      · obtain ⟨j, hj, rfl⟩ := List.getElem_of_mem hm
        rw [(hm2 ρ[j]).1 j hj rfl, List.getElem?_eq_getElem (by omega)] at hb
        have hb := Option.some.inj hb
        subst hb
        obtain ⟨g1, g2, g3⟩ := hok j (by omega) (by omega)
        have hB := hR.mSome _ _ g1
        have hkn0 : known (ioM 0 io) (ioL + j) (io[j]'(by omega)).ver := ⟨io[j]'(by omega), by rw [look0, if_pos (by omega)]; simp <;> omega, Nat.le_refl _⟩
        have hfix := hR.fix (ioL + j) _ (by omega) hkn0
        have hfix : LS.le (φ' (ioL + j)) (φ ρ[j]) (io[j]'(by omega)).ver := by rw [← φio_at φ hj]; exact hfix
        rw [fp2in j hj]
        rw [← g2] at hfix
        generalize io'[j] = b at hB hfix g3
        cases b with
        | gone v => exact g3.elim
        | row v sh dp xs =>
          rcases hB with ⟨q1, q2, q3⟩ | ⟨b, cap, q1, q2, q3, q4⟩
          · exact .inl ⟨hfix.2 q1, q2, q3⟩
          · refine .inr ⟨b, cap, hfix.1 _ _ q1, q2, q3, ?_⟩
            cases dp with
            | true => exact q4
            | false => exact q4.mono (fun _ _ => rfl) hST (fun _ _ => rfl)
        | lent v xs i u => exact g3.elim
        | sub v sh xs u => exact g3.elim
        | box v xs =>
          obtain ⟨b, cs, e, sh, q1, q2, q3, q4, q5, q6⟩ := hB
          exact ⟨b, cs, e, sh, hfix.1 _ _ q1, q2, q3, q4, q5, fun i hi => .rd _ _ ((rd_of_rv (q6 i hi) (labs_nil_get g3 i hi)).mono (fun _ _ => rfl) hST)⟩
      · rw [(hm2 l).2 hm] at hb
        rw [fp2out l hm]
        refine (h.mSome l b hb).mono hSsame (fun b hb => .inl hb) hz (fun c hc => hsame c (h.fpB l c hc).1 fun j hj hc' => hm ?_) rfl fun _ _ _ _ _ _ => LS.le_refl _ _
        rw [h.dis _ _ c hc hc']; exact List.getElem_mem hj
    · by_cases hm : l ∈ ρ
      · obtain ⟨j, hj, rfl⟩ := List.getElem_of_mem hm
        rw [(hm2 ρ[j]).1 j hj rfl, List.getElem?_eq_getElem (by omega)] at hb
        have hb := Option.some.inj hb
        have g3 := (hok j (by omega) (by omega)).2.2
        rw [hb] at g3
        have g3 : labsL xs = [] := g3
        rw [g3] at hl; cases hl
      · rw [(hm2 l).2 hm] at hb
        exact hkn l' ver (h.bl l v xs hb l' ver hl)
    · by_cases hm : l ∈ ρ
      · obtain ⟨j, hj, rfl⟩ := List.getElem_of_mem hm
        rw [fp2in j hj]; exact hR.nod _
      · rw [fp2out l hm]; exact h.nod l
    · have mixed : ∀ j (hj : j < ρ.length) l, l ∉ ρ → b ∈ fp' (ioL + j) → b ∈ fp l → False := by
        intro j hj l hm b1 b2
        rcases (fpnew j hj b b1).2 with hh | hh
        · have := (h.fpB l b b2).1; omega
        · exact hm (by rw [h.dis _ _ b b2 hh]; exact List.getElem_mem hj)
      by_cases m1 : l ∈ ρ
      · obtain ⟨j, hj, rfl⟩ := List.getElem_of_mem m1
        rw [fp2in j hj] at h1
        by_cases m2 : l' ∈ ρ
        · obtain ⟨j', hj', rfl⟩ := List.getElem_of_mem m2
          rw [fp2in j' hj'] at h2
          have := hR.dis _ _ b h1 h2
          have : j = j' := by omega
          subst this; rfl
        · rw [fp2out l' m2] at h2
          exact (mixed j hj l' m2 h1 h2).elim
      · rw [fp2out l m1] at h1
        by_cases m2 : l' ∈ ρ
        · obtain ⟨j', hj', rfl⟩ := List.getElem_of_mem m2
          rw [fp2in j' hj'] at h2
          exact (mixed j' hj' l m1 h2 h1).elim
        · rw [fp2out l' m2] at h2
          exact h.dis l l' b h1 h2
    · by_cases hm : l ∈ ρ
      · obtain ⟨j, hj, rfl⟩ := List.getElem_of_mem hm
        rw [fp2in j hj] at hb
        rintro (hs | hs)
        · rcases (fpnew j hj b hb).2 with hh | hh
          · have := (h.sB b hs).1; omega
          · exact h.notS _ b hh hs
        · exact hR.notS _ b hb hs.1
      · rw [fp2out l hm] at hb
        rintro (hs | hs)
        · exact h.notS l b hb hs
        · have := (h.fpB l b hb).1; omega
    · by_cases hm : l ∈ ρ
      · obtain ⟨j, hj, rfl⟩ := List.getElem_of_mem hm
        rw [fp2in j hj] at hb
        have := fpnew j hj b hb
        refine ⟨this.1, ?_⟩
        rcases this.2 with hh | hh
        · exact .inl (Nat.le_trans h.size hh)
        · exact (h.fpB _ b hh).2
      · rw [fp2out l hm] at hb
        have := h.fpB l b hb
        exact ⟨Nat.lt_of_lt_of_le this.1 hR.size, this.2⟩
    · rcases hb with hs | hs
      · have := h.sB b hs
        exact ⟨Nat.lt_of_lt_of_le this.1 hR.size, this.2⟩
      · exact ⟨(hR.sB b hs.1).1, .inl (Nat.le_trans h.size hs.2)⟩
    · refine (hsame b (Nat.lt_of_lt_of_le hb h.size) fun j hj hb' => ?_).trans (h.base b hb hio)
      rcases (h.fpB _ b hb').2 with hh | hh
      · omega
      · exact hio _ hh.choose_spec.1
  exact ⟨v, r, io', fp2, T, rfl, hpost, hRS, hrd.mono (fun _ _ => rfl) hST⟩

end
def sCallMR (P : Program) (f : FuncId) (ρ : List Nat) (io : List Blk) (args : List AV) (m : Mem) (k : AV → Mem → Prop) (_ : Pack k) : Prop :=
  ∃ post, FnMR P f io args post ∧ ∀ r io', post r io' → k r (putIo ρ io' m)
@[congr] theorem sCallMR_congr {P : Program} {f : FuncId} {ρ : List Nat} {io io' : List Blk} {args args' : List AV} {m : Mem} {k : AV → Mem → Prop} {q : Pack k} (h : io = io') (h' : args = args') : sCallMR P f ρ io args m k q = sCallMR P f ρ io' args' m k q := by rw [h, h']
theorem sCallMR_any {P : Program} {f : FuncId} {ρ : List Nat} {io : List Blk} {args : List AV} {post : AV → List Blk → Prop} {m : Mem} {k : AV → Mem → Prop} (h : FnMR P f io args post) (hk : ∀ r io', post r io' → k r (putIo ρ io' m)) {q : Pack k} : sCallMR P f ρ io args m k q :=
  ⟨_, h, hk⟩
theorem sCallIo_ioR {P : Program} {f : FuncId} {xs : List AV} {m : Mem} {k : AV → Mem → Prop} (ρ : List Nat) (h : sSel m (fun io => sRens ρ (fun args => sCallMR P f ρ io args m k ⟨⟩) [] xs) [] ρ) : sCallIo P f xs m k := by
  refine fun B N φ fp S ts a w vs hRS hsz hx hxl => ?_
  obtain ⟨hnd, io, h1, h2, h3⟩ := sSel_out ρ [] h
  rw [List.reverse_nil, uq3] at h1
  obtain ⟨args, g1, g2, g3⟩ := rens_out (w := w) (S := S) (φ := φ) h2 h3 xs vs.toList [] (by simpa using hsz) hx hxl h1
  rw [List.reverse_nil, uq3] at g1
  obtain ⟨post, hf, hk⟩ := g1
  refine ⟨hf.1, (callMR_core hnd h2 h3 hRS (hsz.trans g2.symm) g3 hf (xs := xs)).mono ?_⟩
  rintro e w' ⟨v, r, io', fp2, T, rfl, hpost, hR, hrd⟩
  exact ⟨v, rfl, φ, fp2, T, ts, _, r, hR, .rd _ _ hrd, fun l ver hl => (by rw [labs_rd hrd] at hl; cases hl), rfl, hk r io' hpost⟩
theorem sCallT_ioR {P : Program} {f : FuncId} {d : Nat} {xs ts : List AV} {m : Mem} {k : AV → Mem → Prop} (ρ : List Nat) (h : sSel m (fun io => sRens ρ (fun args => sCallMR P f ρ io args m k ⟨⟩) [] xs) [] ρ) {q : Pack k} : sCallT P f d xs ts m k q :=
  .inl (sCallIo_ioR ρ h)
def sCallMRX (P : Program) (f : FuncId) (ρ : List Nat) (io : List Blk) (args : List AV) (m : Mem) (k : AV → Mem → Prop) (_ : Pack k) : Prop :=
  ∃ r io1, FnMR P f io args (fun x io' => x = r ∧ io' = io1) ∧ k r (putIo ρ io1 m)
@[congr] theorem sCallMRX_congr {P : Program} {f : FuncId} {ρ : List Nat} {io io' : List Blk} {args args' : List AV} {m : Mem} {k : AV → Mem → Prop} {q : Pack k} (h : io = io') (h' : args = args') : sCallMRX P f ρ io args m k q = sCallMRX P f ρ io' args' m k q := by rw [h, h']
theorem sCallMRX_one {P : Program} {f : FuncId} {ρ : List Nat} {io io1 : List Blk} {args : List AV} {r : AV} {m : Mem} {k : AV → Mem → Prop} (h : FnMR P f io args (fun x io' => x = r ∧ io' = io1)) (hk : k r (putIo ρ io1 m)) {q : Pack k} : sCallMRX P f ρ io args m k q :=
  ⟨_, _, h, hk⟩
theorem sCallX_ioR {P : Program} {f : FuncId} {d : Nat} {xs ts : List AV} {m : Mem} {k : AV → Mem → Prop} {q : Pack k} (ρ : List Nat) (hρ : (ρ.all fun l => (labsL xs).any fun p => p.1 == l) = true) (h : sSel m (fun io => sRens ρ (fun args => sCallMRX P f ρ io args m k ⟨⟩) [] xs) [] ρ) : sCallX P f d xs ts m k q := by
  have hρ' : ∀ l, l ∈ ρ → ∃ x, x ∈ xs ∧ NL x l := fun l hl => by
    rw [List.all_eq_true] at hρ
    obtain ⟨p, hp, he⟩ := List.any_eq_true.1 (hρ l hl)
    obtain ⟨i, hi, hpi⟩ := of_mem_labsL hp
    rw [beq_iff_eq] at he
    subst he
    exact ⟨xs[i], List.getElem_mem hi, p.2, hpi⟩
  obtain ⟨io, h1, h2⟩ := D1.sel m ρ [] _ h
  obtain ⟨args, h3, h4⟩ := D1.rens ρ xs [] _ h1
  obtain ⟨r, io1, hF, hm⟩ := h3
  refine .inr (.inr ⟨r, putIo ρ io1 [], by rw [← putIo_app]; exact hm, fun m' a b k' hk' => sCallIo_ioR ρ ?_⟩)
  rw [like_sel _ ρ [] fun l hl => a l (hρ' l hl)]
  refine h2 _ (h4 _ ⟨_, hF, ?_⟩)
  rintro _ _ ⟨rfl, rfl⟩
  rw [putIo_app]
  exact hk'
attribute [go_sem] finMR_ret
end Go.Vc


set_option linter.unusedVariables false
set_option linter.unusedSimpArgs false
set_option linter.unnecessarySimpa false
namespace Go.Vc

section
variable {P : Program} {N : Nat} {ts : Env} {m : Mem}

theorem RS.frzB {B : Base} {φ : Nat → LS} {fp : Nat → List Nat} {S : Nat → Prop} {a : Act} {w : World} (hRS : RS B N φ fp S ts m a w) (lb vb j l v i n : Nat) (sh : Sh) (d : Bool) (xs ys : List AV) (hl : l < ioL) (hb : lookB m lb = some (.box vb xs)) (hx : xs[j]? = some (.ref l v i n))
    (hm : lookB m l = some (.row v sh d ys)) (hn : i + n ≤ ys.length) :
    RS B N (offφ l φ) (offF l fp) (fun b => S b ∨ b ∈ fp l) ts ((lb, .box vb (xs.set j (.arr sh ((ys.drop i).take n)))) :: (l, .gone v) :: m) a w := by
  have hf := hRS.frz hl hm (v := v) rfl
  have hne : lb ≠ l := by rintro rfl; rw [hb] at hm; cases hm
  obtain ⟨hj, hx'⟩ := List.getElem?_eq_some_iff.1 hx
  obtain ⟨b, cs, e, sh2, h1, h2, h3, h4, h5, h6⟩ := hRS.mSome lb _ hb
  have hrd := frz_rd hRS hl hm hn (hx' ▸ h6 j hj)
  have hb2 : lookB ((l, Blk.gone v) :: m) lb = some (.box vb xs) := by rw [lookB_cons, if_neg (Ne.symm hne)]; exact hb
  have hkn : ∀ k ver, known ((l, Blk.gone v) :: m) k ver → known ((lb, .box vb (xs.set j (.arr sh ((ys.drop i).take n)))) :: (l, .gone v) :: m) k ver := by
    rintro k ver ⟨b0, g1, g2⟩
    by_cases e : lb = k
    · subst e
      rw [hb2] at g1; injection g1 with g1; subst g1
      exact ⟨.box vb (xs.set j (.arr sh ((ys.drop i).take n))), by rw [lookB_cons, if_pos rfl], g2⟩
    · exact ⟨b0, by rw [lookB_cons, if_neg e]; exact g1, g2⟩
  refine { hf with tl := fun t k ver hk => hkn k ver (hf.tl t k ver hk), mNone := fun k hk => ?_, mSome := fun k b0 hk => ?_, bl := fun k v' zs hk k' ver hl' => ?_, kn := fun k ver hk hk2 => hkn k ver (hf.kn k ver hk hk2) }
  · rw [lookB_cons] at hk
    split at hk
    · cases hk
    · exact hf.mNone k hk
  · rw [lookB_cons] at hk
    split at hk
    · rename_i e0
      subst e0
      injection hk with hk
      subst hk
      obtain ⟨b', cs', e', sh', g1, g2, g3, g4, g5, g6⟩ := hf.mSome lb _ hb2
      refine ⟨b', cs', e', sh', g1, g2, g3, by simpa using g4, fun q hq => ?_, fun q hq => ?_⟩
      · rw [List.getElem_set]
        split
        · trivial
        · exact g5 q (by simpa using hq)
      · rw [List.getElem_set]
        split
        · rename_i e2
          subst e2
          refine .rd _ _ ?_
          have hbb : b' = b := by
            have : offφ l φ lb = φ lb := offφ_ne hne
            rw [this, h1] at g1; cases g1; rfl
          subst hbb
          rw [h3] at g3; injection g3 with g3; injection g3 with g3 _ _
          subst g3
          exact hrd
        · exact g6 q (by simpa using hq)
    · exact hf.mSome k b0 hk
  · rw [lookB_cons] at hk
    split at hk
    · rename_i e0
      injection hk with hk
      injection hk with _ hk
      subst hk
      obtain ⟨q, hq, hlq⟩ := of_mem_labsL hl'
      rw [List.getElem_set] at hlq
      split at hlq
      · cases hlq
      · have hq2 : q < xs.length := by simpa using hq
        exact hkn k' ver (hf.bl lb vb xs hb2 k' ver (mem_labsL hq2 hlq))
    · exact hkn k' ver (hf.bl k v' zs hk k' ver hl')
theorem Later.frzB {code : Code} {Q : Post} {q : Pack (code, Q)} (lb vb j l v i n : Nat) (sh : Sh) (d : Bool) (xs ys : List AV) (hl : l < ioL) (hb : lookB m lb = some (.box vb xs)) (hx : xs[j]? = some (.ref l v i n))
    (hm : lookB m l = some (.row v sh d ys)) (hn : i + n ≤ ys.length)
    (h : Later P N code ts ((lb, .box vb (xs.set j (.arr sh ((ys.drop i).take n)))) :: (l, .gone v) :: m) Q q) : Later P N code ts m Q q :=
  ⟨fun B φ fp S a w hRS => h.ok B _ _ _ a w (hRS.frzB lb vb j l v i n sh d xs ys hl hb hx hm hn)⟩
end

section
variable {P : Program} {B : Base} {N : Nat} {φ : Nat → LS} {fp : Nat → List Nat} {S : Nat → Prop} {ts : Env} {m : Mem} {a : Act} {w : World}
end

inductive GivB (m : Mem) : Mem → Prop
  | refl : GivB m m
  | box (lb vb j l v i n : Nat) (sh : Sh) (d : Bool) (xs ys : List AV) (hl : l < ioL) (hb : lookB m lb = some (.box vb xs)) (hx : xs[j]? = some (.ref l v i n)) (hm : lookB m l = some (.row v sh d ys)) (hn : i + n ≤ ys.length) :
      GivB m ((lb, .box vb (xs.set j (.arr sh ((ys.drop i).take n)))) :: (l, .gone v) :: m)
end Go.Vc


set_option linter.unusedVariables false
set_option linter.unusedSimpArgs false
set_option linter.unnecessarySimpa false
namespace Go.Vc

section
variable {P : Program} {B : Base} {N : Nat} {φ : Nat → LS} {fp : Nat → List Nat} {S : Nat → Prop} {ts : Env} {m : Mem} {a : Act} {w : World}

theorem RS.takeOut (h : RS B N φ fp S ts m a w) {l v i l2 : Nat} {xs ys : List AV} {sh2 : Sh} (hl : l < ioL) (hlk : lookB m l = some (.row v ⟨1, false⟩ true xs)) (hx : xs[i]? = some (.arr sh2 ys)) (hy : 0 < ys.length) (hl2n : lookB m l2 = none) :
    ∃ φ2 fp2 u, RS B N φ2 fp2 S ts ((l2, .sub 0 sh2 ys u) :: (l, .row v ⟨1, false⟩ true (xs.set i (.val u))) :: m) a w := by
  obtain ⟨hi, hxi⟩ := List.getElem?_eq_some_iff.1 hx
  have hne : l2 ≠ l := fun e => by rw [e, hlk] at hl2n; cases hl2n
  rcases h.mSome l _ hlk with ⟨_, h0, _⟩ | ⟨b, cap, hφ, hbm, _, hown⟩
  · rw [h0] at hi; exact absurd hi (Nat.not_lt_zero _)
  simp only [if_true] at hown
  rcases own_arr hown with ⟨h0, _⟩ | ⟨b', cap', cs, e', fss, q1, hfp, hheap, hc, hl', hm, hf, hs, hv⟩
  · rw [h0] at hi; exact absurd hi (Nat.not_lt_zero _)
  simp only [Value.slice.injEq, Option.some.injEq, Addr.mk.injEq] at q1
  obtain ⟨⟨rfl, _⟩, _, rfl⟩ := q1
  have hvi := hv i hi
  rw [hxi, elemV_cell, Nat.mul_one] at hvi
  generalize hu : cs.toList.getD i Go.undef = u at hvi
  have hlf : i < fss.length := by omega
  have huo : u.oneCell' = true := hvi.leaf_oneCell trivial
  have hset : (fss.set i []).set i (fss.getD i []) = fss := by
    rw [List.set_set]
    refine List.ext_getElem (by simp) fun j h1 h2 => ?_
    rw [List.getElem_set]
    split
    · rename_i e; subst e; rw [List.getD_eq_getElem?_getD, List.getElem?_eq_getElem hlf]; rfl
    · rfl
  have hperm : fss.flatten.Perm (fss.getD i [] ++ (fss.set i []).flatten) := by
    have := set_flatten_perm (fss.getD i []) (fss.set i []) i (by simpa using hlf) (by simp [List.getD_eq_getElem?_getD, hlf])
    rwa [hset] at this
  have hpm : (fp l).Perm (fss.getD i [] ++ (b :: (fss.set i []).flatten)) := by
    rw [hfp]
    exact (hperm.cons b).trans List.perm_middle.symm
  have hnod := hpm.nodup_iff.1 (h.nod l)
  have hnod := List.nodup_append.1 hnod
  have hin : ∀ c, c ∈ b :: (fss.set i []).flatten → c ∈ fp l := fun c hc => hpm.mem_iff.2 (List.mem_append_right _ hc)
  have hin2 : ∀ c, c ∈ fss.getD i [] → c ∈ fp l := fun c hc => hpm.mem_iff.2 (List.mem_append_left _ hc)
  have R1 : RS B N (upd φ l (φ l)) (upd fp l (b :: (fss.set i []).flatten)) S ts ((l, .row v ⟨1, false⟩ true (xs.set i (.val u))) :: m) a w := by
    refine h.next l (φ l) _ S _ (Nat.le_refl _) (SameOut.refl _) (Szs.refl _) (fun _ _ _ => rfl) (fun c hc => ⟨hc, rfl⟩) (fun c h1 h2 => absurd h1 h2) (fun l b sh ver cs e _ hb => ⟨cs, e, hb, rfl⟩)
      (fun _ _ _ _ => rfl) (fun ver _ => LS.le_refl _ _) ?_ ?_ (fun _ _ hk => by cases hk) hnod.2.1 ?_
    · rintro ver ⟨k', h1, h2⟩
      rw [hlk] at h1; cases h1; exact h2
    · refine .inr ⟨b, cap, by rw [upd_same]; exact hφ, List.mem_cons_self .., fun h => (by cases h), ?_⟩
      refine .arr ⟨1, false⟩ (xs.set i (.val u)) b cap cs e' (fss.set i []) hheap hc (by simpa using hl') hm (fun j hj => ?_) (by simpa using hs) fun j hj => ?_
      · rw [List.getElem_set]
        split
        · exact ⟨rfl, rfl⟩
        · exact hf j (by simpa using hj)
      · have hj' : j < xs.length := by simpa using hj
        by_cases e : i = j
        · subst e
          have e1 : (fss.set i []).getD i [] = [] := by simp [List.getD_eq_getElem?_getD, hlf]
          rw [List.getElem_set_self, e1, elemV_cell, Nat.mul_one, hu]
          exact .rd _ _ (.val _ huo)
        · have e1 : (fss.set i []).getD j [] = fss.getD j [] := by simp [List.getD_eq_getElem?_getD, List.getElem?_set, e]
          rw [List.getElem_set_ne e, e1]; exact hv j hj'
    · intro c hc
      have := h.fpB l c (hin c hc)
      exact ⟨h.notS l c (hin c hc), fun l' hl' hc' => hl' (h.dis l' l c hc' (hin c hc)), this.1, this.2⟩
  rcases own_arr hvi with ⟨g1, g2, g3⟩ | ⟨b2, cap2, cs2, e2, fss2, g1, g2, g3, g4, g5, g6, g7, g8, g9⟩
  · rw [g1] at hy; exact absurd hy (Nat.not_lt_zero _)
  have hno : lookB ((l, Blk.row v ⟨1, false⟩ true (xs.set i (.val u))) :: m) l2 = none := by rw [lookB_cons, if_neg (Ne.symm hne)]; exact hl2n
  refine ⟨_, _, u, R1.next l2 (.at b2 sh2 0) (fss.getD i []) S _ (Nat.le_refl _) (SameOut.refl _) (Szs.refl _) (fun _ _ _ => rfl) (fun c hc => ⟨hc, rfl⟩) (fun c h1 h2 => absurd h1 h2) (fun l b sh ver cs e _ hb => ⟨cs, e, hb, rfl⟩)
    (fun _ _ _ _ => rfl) ?_ ?_ ?_ (fun _ _ hk => by cases hk) hnod.1 ?_⟩
  · rintro ver ⟨k', h1, _⟩; rw [hno] at h1; cases h1
  · rintro ver ⟨k', h1, _⟩; rw [hno] at h1; cases h1
  · exact ⟨b2, cap2, upd_same _ _ _, by rw [g2]; simp, g1, hvi⟩
  · intro c hc
    have := h.fpB l c (hin2 c hc)
    refine ⟨h.notS l c (hin2 c hc), fun l' hl' hc' => ?_, this.1, .inl (this.2.resolve_right fun hh => Nat.lt_irrefl _ (Nat.lt_of_lt_of_le hl hh.choose_spec.2.1))⟩
    by_cases e : l' = l
    · subst e
      rw [upd_same] at hc'
      exact hnod.2.2 c hc c hc' rfl
    · rw [upd_other _ _ _ _ e] at hc'
      exact e (h.dis l' l c hc' (hin2 c hc))

theorem RS.putBack (h : RS B N φ fp S ts m a w) {l v i l2 v2 : Nat} {xs ys : List AV} {sh2 : Sh} {u : Value} (hl2 : l2 < ioL) (hlk : lookB m l = some (.row v ⟨1, false⟩ true xs)) (hx : xs[i]? = some (.val u)) (hlk2 : lookB m l2 = some (.sub v2 sh2 ys u)) :
    ∃ φ2 fp2, RS B N φ2 fp2 S ts ((l, .row v ⟨1, false⟩ true (xs.set i (.arr sh2 ys))) :: (l2, .gone v2) :: m) a w := by
  obtain ⟨hi, hxi⟩ := List.getElem?_eq_some_iff.1 hx
  have hne : l2 ≠ l := fun e => by rw [e, hlk] at hlk2; cases hlk2
  rcases h.mSome l _ hlk with ⟨_, h0, _⟩ | ⟨b, cap, hφ, hbm, _, hown⟩
  · rw [h0] at hi; exact absurd hi (Nat.not_lt_zero _)
  simp only [if_true] at hown
  rcases own_arr hown with ⟨h0, _⟩ | ⟨b', cap', cs, e', fss, q1, hfp, hheap, hc, hl', hm, hf, hs, hv⟩
  · rw [h0] at hi; exact absurd hi (Nat.not_lt_zero _)
  simp only [Value.slice.injEq, Option.some.injEq, Addr.mk.injEq] at q1
  obtain ⟨⟨rfl, _⟩, _, rfl⟩ := q1
  obtain ⟨b2, cap2, hφ2, hbm2, hu2, hown2⟩ := h.mSome l2 _ hlk2
  have hlf : i < fss.length := by omega
  have hvi := hv i hi
  rw [hxi, elemV_cell, Nat.mul_one] at hvi
  obtain ⟨hu, hfe, huo⟩ := own_val hvi
  have hR1 := h.give l2 _ hlk2 S (fun _ h => h) (fun b h1 h2 => absurd h1 h2)
  have hperm := set_flatten_perm (fp l2) fss i hlf hfe
  have hpm : (b :: (fss.set i (fp l2)).flatten).Perm (fp l2 ++ fp l) := by
    rw [hfp]
    exact (hperm.cons b).trans List.perm_middle.symm
  have hmem : ∀ c, c ∈ b :: (fss.set i (fp l2)).flatten → c ∈ fp l2 ∨ c ∈ fp l := fun c hc => List.mem_append.1 (hpm.mem_iff.1 hc)
  have hnl : l ≠ l2 := Ne.symm hne
  have hφ1 : upd φ l2 .dead l = φ l := upd_other _ _ _ _ hnl
  refine ⟨_, _, hR1.next l (φ l) (b :: (fss.set i (fp l2)).flatten) S _ (Nat.le_refl _) (SameOut.refl _) (Szs.refl _) (fun _ _ _ => rfl) (fun c hc => ⟨hc, rfl⟩) (fun c h1 h2 => absurd h1 h2) (fun l b sh ver cs e _ hb => ⟨cs, e, hb, rfl⟩)
      (fun _ _ _ _ => rfl) (fun ver _ => by rw [hφ1]; exact LS.le_refl _ _) ?_ ?_ (fun _ _ hk => by cases hk) ?_ ?_⟩
  · rintro ver ⟨k', h1, h2⟩
    rw [lookB_cons, if_neg hne, hlk] at h1; cases h1; exact h2
  · refine .inr ⟨b, cap, by rw [upd_same]; exact hφ, List.mem_cons_self .., fun h => (by cases h), ?_⟩
    refine .arr ⟨1, false⟩ (xs.set i (.arr sh2 ys)) b cap cs e' (fss.set i (fp l2)) hheap hc (by simpa using hl') hm (fun j hj => ?_) (by simpa using hs) fun j hj => ?_
    · rw [List.getElem_set]
      split
      · exact ⟨rfl, rfl⟩
      · exact hf j (by simpa using hj)
    · have hj' : j < xs.length := by simpa using hj
      by_cases ej : i = j
      · subst ej
        have e1 : (fss.set i (fp l2)).getD i [] = fp l2 := by simp [List.getD_eq_getElem?_getD, hlf]
        rw [List.getElem_set_self, e1, elemV_cell, Nat.mul_one, hu]; exact hown2
      · have e1 : (fss.set i (fp l2)).getD j [] = fss.getD j [] := by simp [List.getD_eq_getElem?_getD, List.getElem?_set, ej]
        rw [List.getElem_set_ne ej, e1]; exact hv j hj'
  · refine hpm.nodup_iff.2 (List.nodup_append.2 ⟨h.nod l2, h.nod l, fun c h1 c' h2 e => ?_⟩)
    subst e
    exact hne (h.dis l2 l c h1 h2)
  · intro c hc
    have hoff : ∀ l', l' ≠ l → c ∈ upd fp l2 [] l' → c ∈ fp l' ∧ l' ≠ l2 := fun l' hl' hc' => by
      by_cases e2 : l' = l2
      · subst e2; rw [upd_same] at hc'; cases hc'
      · rw [upd_other _ _ _ _ e2] at hc'; exact ⟨hc', e2⟩
    rcases hmem c hc with hcl | hcl
    · have := h.fpB l2 c hcl
      refine ⟨h.notS l2 c hcl, fun l' hl' hc' => ?_, this.1, .inl (this.2.resolve_right fun hh => Nat.lt_irrefl _ (Nat.lt_of_lt_of_le hl2 hh.choose_spec.2.1))⟩
      obtain ⟨h1, h2⟩ := hoff l' hl' hc'
      exact h2 (h.dis l' l2 c h1 hcl)
    · have := h.fpB l c hcl
      refine ⟨h.notS l c hcl, fun l' hl' hc' => ?_, this.1, this.2⟩
      obtain ⟨h1, h2⟩ := hoff l' hl' hc'
      exact hl' (h.dis l' l c h1 hcl)

theorem Later.takeOut {code : Code} {Q : Post} {q : Pack (code, Q)} (l v i l2 : Nat) (xs ys : List AV) (sh2 : Sh) (hl : l < ioL) (hlk : lookB m l = some (.row v ⟨1, false⟩ true xs)) (hx : xs[i]? = some (.arr sh2 ys)) (hy : 0 < ys.length) (hl2n : lookB m l2 = none)
    (h : ∀ u, Later P N code ts ((l2, .sub 0 sh2 ys u) :: (l, .row v ⟨1, false⟩ true (xs.set i (.val u))) :: m) Q q) : Later P N code ts m Q q :=
  ⟨fun B φ fp S a w hRS => have ⟨_, _, u, hR⟩ := hRS.takeOut hl hlk hx hy hl2n; (h u).ok B _ _ _ a w hR⟩
theorem RS.known (h : RS B N φ fp S ts m a w) {t l v n : Nat} {sh : Sh} {ys : List AV} (ht : look ts t = .ref l v 0 n) (htN : t < N) (hlk : lookB m l = some (.row v sh true ys)) (hn : n = ys.length) (h0 : 0 < n) (hsz : 0 < sh.sz) :
    ∃ φ2 fp2 u, RS B N φ2 fp2 S ((t, .val u) :: ts) ((l, .sub v sh ys u) :: m) a w := by
  subst hn
  rcases h.mSome l _ hlk with ⟨_, e0, _⟩ | ⟨b, cap, hφ, hbm, _, hown⟩
  · rw [e0] at h0; exact absurd h0 (Nat.lt_irrefl _)
  simp only [if_true] at hown
  have htm := h.tm t
  rw [ht] at htm
  have hr := rv_ref htm
  obtain ⟨ad, cp, hv, hnc, hcp⟩ := hr.1 b sh hφ
  obtain ⟨rfl, cs, e, g1, g2⟩ := hcp.resolve_left (by omega)
  rw [Nat.zero_mul] at hv
  have hown0 := hown
  rcases own_arr hown with ⟨e0, _⟩ | ⟨b', cap', cs', e', fss, q1, hfp, hheap, hc, hl', hm, hf, hs, hvv⟩
  · rw [e0] at h0; exact absurd h0 (Nat.lt_irrefl _)
  simp only [Value.slice.injEq, Option.some.injEq, Addr.mk.injEq] at q1
  obtain ⟨⟨rfl, _⟩, _, rfl⟩ := q1
  obtain rfl := celO_inj (hheap.symm.trans g1)
  have hcc : cp = cap := by
    have : cp * sh.sz = cap * sh.sz := by rw [← hc, g2, Nat.zero_add]
    exact Nat.eq_of_mul_eq_mul_right hsz this
  subst hcc
  have R1 : RS B N (upd φ l (φ l)) (upd fp l (fp l)) S ts ((l, .sub v sh ys (.slice (some ⟨b, 0, none⟩) ys.length cp)) :: m) a w := by
    refine h.next l (φ l) (fp l) S _ (Nat.le_refl _) (SameOut.refl _) (Szs.refl _) (fun _ _ _ => rfl) (fun c hc => ⟨hc, rfl⟩) (fun c h1 h2 => absurd h1 h2) (fun l b sh ver cs e _ hb => ⟨cs, e, hb, rfl⟩)
      (fun _ _ _ _ => rfl) (fun ver _ => LS.le_refl _ _) ?_ ?_ (fun _ _ hk => by cases hk) (h.nod l) ?_
    · rintro ver ⟨k', h1, h2⟩
      rw [hlk] at h1; cases h1; exact h2
    · exact ⟨b, cp, by rw [upd_same]; exact hφ, hbm, rfl, hown0⟩
    · intro c hc
      have := h.fpB l c hc
      exact ⟨h.notS l c hc, fun l' hl' hc' => hl' (h.dis l' l c hc' hc), this.1, this.2⟩
  refine ⟨_, _, _, { R1 with tm := fun t' => ?_, tl := fun t' l' ver hl' => ?_ }⟩
  · rw [look_cons]
    split
    · rename_i e; subst e
      rw [hv]
      exact .rd _ _ (.val _ rfl)
    · exact R1.tm t'
  · rw [look_cons] at hl'
    split at hl'
    · cases hl'
    · exact R1.tl t' l' ver hl'
theorem Later.known {code : Code} {Q : Post} {q : Pack (code, Q)} (t l v n : Nat) (sh : Sh) (ys : List AV) (ht : look ts t = .ref l v 0 n) (htN : t < N) (hlk : lookB m l = some (.row v sh true ys)) (hn : n = ys.length) (h0 : 0 < n) (hsz : 0 < sh.sz)
    (h : ∀ u, Later P N code ((t, .val u) :: ts) ((l, .sub v sh ys u) :: m) Q q) : Later P N code ts m Q q :=
  ⟨fun B φ fp S a w hRS => have ⟨_, _, u, hR⟩ := hRS.known ht htN hlk hn h0 hsz; (h u).ok B _ _ _ a w hR⟩
theorem Later.vc {code : Code} {Q : Post} {q : Pack (code, Q)} (hok : codeOk N code = true) (h : vc P N code ts m Q) : Later P N code ts m Q q := ⟨vc_sound code _ _ _ hok h⟩
end

section
variable {P : Program} {B : Base} {N : Nat} {φ : Nat → LS} {fp : Nat → List Nat} {S : Nat → Prop} {ts : Env} {m : Mem} {a : Act} {w : World}
theorem RS.undeepL2 (h : RS B N φ fp S ts m a w) {l v : Nat} {sh : Sh} {xs : List AV} (hio : l < ioL) (hlk : lookB m l = some (.row v sh true xs)) : ∃ fp2 S2, RS B N φ fp2 S2 ts ((l, .row v sh false xs) :: m) a w ∧ ∀ c, S c → S2 c := by
  have hφφ : upd φ l (φ l) = φ := funext fun k => by unfold upd; split <;> simp_all
  rcases h.mSome l _ hlk with ⟨h1, h2, h3⟩ | ⟨b, cap, hφ, hbm, _, hown⟩
  · have hR := h.next l (φ l) [] S (.row v sh false xs) (Nat.le_refl _) (SameOut.refl _) (Szs.refl _) (fun _ _ _ => rfl) (fun c hc => ⟨hc, rfl⟩) (fun c h1 h2 => absurd h1 h2) (fun l b sh ver cs e _ hb => ⟨cs, e, hb, rfl⟩)
      (fun _ _ _ _ => rfl) (fun ver _ => LS.le_refl _ _) (by
        rintro ver ⟨k', g1, g2⟩
        rw [hlk] at g1; cases g1; exact g2) (.inl ⟨by rw [upd_same]; exact h1, h2, rfl⟩) (fun _ _ hk => by cases hk) List.nodup_nil (fun c hc => by cases hc)
    rw [hφφ] at hR
    exact ⟨_, _, hR, fun _ h => h⟩
  simp only [if_true] at hown
  obtain ⟨cs, e, fss, hgf, hheap, hcs, hcap, hmx, hff, hfl, hvv⟩ := row_inv hown hbm
  obtain ⟨S', hR, hS, _⟩ := h.undeep hlk hφ hgf hheap hcs hcap hmx hff hfl hvv hio
  rw [hφφ] at hR
  exact ⟨_, _, hR, hS⟩
theorem sCallT_ioU {f : FuncId} {d : Nat} {xs trs : List AV} {k : AV → Mem → Prop} (l v : Nat) (sh : Sh) (ys : List AV) (hio : l < ioL) (hlk : lookB m l = some (.row v sh true ys)) (ρ : List Nat)
    (h : sSel ((l, .row v sh false ys) :: m) (fun io => sRens ρ (fun args => sCallM P f d ρ io args ((l, .row v sh false ys) :: m) k ⟨⟩) [] xs) [] ρ) {q : Pack k} : sCallT P f d xs trs m k q := by
  refine .inl fun B N φ fp S ts a w vs hRS hsz hx hxl => ?_
  obtain ⟨fp2, S2, hR2, hS⟩ := hRS.undeepL2 hio hlk
  obtain ⟨hnd, io, h1, h2, h3⟩ := sSel_out ρ [] h
  rw [List.reverse_nil, uq3] at h1
  have hx2 : ∀ i (h : i < xs.length), RV w S2 φ xs[i] (vs.toList.getD i Go.undef) := fun i hi => (hx i hi).mono (fun _ _ => rfl) hS (fun l b sh ver cs e _ hh => ⟨cs, e, hh, rfl⟩) fun l ver _ => LS.le_refl _ _
  have hxl2 : ∀ i (h : i < xs.length) l' ver, (l', ver) ∈ labs xs[i] → known ((l, .row v sh false ys) :: m) l' ver := fun i hi l' ver hl => by
    obtain ⟨k', g1, g2⟩ := hxl i hi l' ver hl
    unfold known
    rw [lookB_cons]
    split
    · rename_i e; subst e
      rw [hlk] at g1; cases g1
      exact ⟨_, rfl, g2⟩
    · exact ⟨_, g1, g2⟩
  obtain ⟨args, g1, g2, g3⟩ := rens_out (w := w) (S := S2) (φ := φ) h2 h3 xs vs.toList [] (by simpa using hsz) hx2 hxl2 h1
  rw [List.reverse_nil, uq3] at g1
  obtain ⟨post, hf, hk⟩ := g1
  exact ⟨hf.1, callM_sound hnd h2 h3 hR2 (hsz.trans g2.symm) g3 hf hk (xs := xs)⟩
end

def hk (P : Program) (n : St) : St := fun ts m => ∀ (B : Base) (N : Nat) (φ : Nat → LS) (fp : Nat → List Nat) (S : Nat → Prop) (a : Act) (w : World), RS B N φ fp S ts m a w → ∃ φ2 fp2 S2 ts2 m2, RS B N φ2 fp2 S2 ts2 m2 a w ∧ n ts2 m2
@[congr] theorem hk_congr {P : Program} {n : St} {ts ts' : Env} {m m' : Mem} (h : ts = ts') (h2 : m = m') : hk P n ts m = hk P n ts' m' := by rw [h, h2]
theorem hk.go {P : Program} {n : St} {ts : Env} {m : Mem} (h : n ts m) : hk P n ts m := fun _ _ _ _ _ _ _ hR => ⟨_, _, _, _, _, hR, h⟩
theorem hk.back {P : Program} {n : St} {ts : Env} {m : Mem} (l v i l2 v2 : Nat) (xs ys : List AV) (sh2 : Sh) (u : Value) (hl2 : l2 < ioL) (hlk : lookB m l = some (.row v ⟨1, false⟩ true xs)) (hx : xs[i]? = some (.val u)) (hlk2 : lookB m l2 = some (.sub v2 sh2 ys u))
    (h : hk P n ts ((l, .row v ⟨1, false⟩ true (xs.set i (.arr sh2 ys))) :: (l2, .gone v2) :: m)) : hk P n ts m := fun B N _ _ _ a w hR =>
  have ⟨_, _, hR2⟩ := hR.putBack hl2 hlk hx hlk2
  h B N _ _ _ a w hR2
theorem Later.hook {P : Program} {N : Nat} {ts : Env} {m : Mem} {code : Code} {Q : Post} {q : Pack (code, Q)} (h : Later P N code ts m (thn Q (hk P (Q .normal))) ⟨⟩) : Later P N code ts m Q q := by
  refine ⟨fun B φ fp S a w hRS => wp_mono (h.ok B φ fp S a w hRS) fun e a' w' hq => ?_⟩
  obtain ⟨φ', fp', S', ts', m', h1, h2⟩ := hq
  cases e with
  | normal =>
    obtain ⟨φ2, fp2, S2, ts2, m2, hR, hn⟩ := h2 B N φ' fp' S' a' w' h1
    exact ⟨φ2, fp2, S2, ts2, m2, hR, hn⟩
  | _ => exact ⟨φ', fp', S', ts', m', h1, h2⟩

inductive RefP : Env → Mem → Env → Mem → Prop
  | here {ts : Env} {m : Mem} {ts2 : Env} {m2 : Mem} (h : refS ts m ts2 m2) : RefP ts m ts2 m2
  | mv {ts : Env} {m : Mem} {ts2 : Env} {m2 : Mem} (l l' : Nat) (hl : l < ioL) (hl' : l' < ioL) (h : RefP (rnE l l' ts) (rnM l l' m) ts2 m2) : RefP ts m ts2 m2
  | back {ts : Env} {m : Mem} {ts2 : Env} {m2 : Mem} (l v i l2 v2 : Nat) (xs ys : List AV) (sh2 : Sh) (u : Value) (hl2 : l2 < ioL) (hlk : lookB m l = some (.row v ⟨1, false⟩ true xs)) (hx : xs[i]? = some (.val u)) (hlk2 : lookB m l2 = some (.sub v2 sh2 ys u))
      (h : RefP ts ((l, .row v ⟨1, false⟩ true (xs.set i (.arr sh2 ys))) :: (l2, .gone v2) :: m) ts2 m2) : RefP ts m ts2 m2
section
variable {B : Base} {N : Nat} {S : Nat → Prop} {ts : Env} {m : Mem} {a : Act} {w : World} {P : Program}
theorem RS.refineP {ts2 : Env} {m2 : Mem} (hr : RefP ts m ts2 m2) : ∀ {φ : Nat → LS} {fp : Nat → List Nat}, RS B N φ fp S ts m a w → ∃ φ' fp' S', RS B N φ' fp' S' ts2 m2 a w := by
  induction hr with
  | here h => intro φ fp hR; exact ⟨_, _, _, hR.refine h⟩
  | mv l l' hl hl' _ ih => intro φ fp hR; exact ih (hR.ren hl hl')
  | back l v i l2 v2 xs ys sh2 u hl2 hlk hx hlk2 _ ih =>
    intro φ fp hR
    obtain ⟨_, _, hR2⟩ := hR.putBack hl2 hlk hx hlk2
    exact ih hR2
theorem Ok.loopP {body : Code} {ι : Type} (I : ι → Prop) (σ : ι → Env × Mem) (μ : ι → Nat) {Q : Post} (x0 : ι) (h0 : I x0) (hr : RefP ts m (σ x0).1 (σ x0).2)
    (step : ∀ x, I x → Ok P N body (σ x).1 (σ x).2 (thn Q fun ts' m' => ∃ y, I y ∧ μ y < μ x ∧ RefP ts' m' (σ y).1 (σ y).2)) : Ok P N (.loop body) ts m Q := by
  intro B φ fp S a w hRS
  obtain ⟨φ0, fp0, S0, hR0⟩ := hRS.refineP hr
  refine wp_loop_ghost (fun n a w => ∃ x φ fp S, I x ∧ μ x = n ∧ RS B N φ fp S (σ x).1 (σ x).2 a w) (μ x0) ⟨x0, _, _, _, h0, rfl, hR0⟩ ?_
  rintro n a w ⟨x, φ, fp, S, hx, rfl, hRS⟩
  refine wp_mono (step x hx B φ fp S a w hRS) fun e a' w' hq => ?_
  obtain ⟨φ', fp', S', ts', m', h1, h2⟩ := hq
  cases e with
  | normal =>
    obtain ⟨y, hy, hlt, href⟩ := h2
    obtain ⟨φ3, fp3, S3, hR3⟩ := h1.refineP href
    exact ⟨μ y, hlt, y, _, _, _, hy, rfl, hR3⟩
  | _ => exact ⟨φ', fp', S', ts', m', h1, h2⟩
theorem Later.upP {body : Code} (L D E : List Nat) (n : Nat) (I : Nat → Prop) (up : Nat → Env) (um : Nat → Mem) {Q : Post} {q : Pack (Code.loop body, Q)} (h0 : I 0)
    (hr : RefP ts m (up 0 ++ pick L ts) (um 0 ++ dropB D E m)) (hok : codeOk N body = true)
    (step : ∀ i, i < n → I i → Later P N body (up i ++ pick L ts) (um i ++ dropB D E m) (thn Q fun ts' m' => I (i + 1) ∧ RefP ts' m' (up (i + 1) ++ pick L ts) (um (i + 1) ++ dropB D E m)) ⟨⟩)
    (stop : I n → Later P N body (up n ++ pick L ts) (um n ++ dropB D E m) (thn Q fun _ _ => False) ⟨⟩) : Later P N (.loop body) ts m Q q := by
  refine ⟨Ok.loopP (fun i => i ≤ n ∧ I i) (fun i => (up i ++ pick L ts, um i ++ dropB D E m)) (fun i => n - i) 0 ⟨Nat.zero_le _, h0⟩ hr fun i ⟨hi, hI⟩ => ?_⟩
  rcases Nat.lt_or_ge i n with h | h
  · refine Ok.mono (step i h hI).ok fun e ts' m' hq => ?_
    cases e with
    | normal => exact ⟨i + 1, ⟨h, hq.1⟩, by omega, hq.2⟩
    | _ => exact hq
  · have e : i = n := Nat.le_antisymm hi h
    subst e
    refine Ok.mono (stop hI).ok fun e ts' m' hq => ?_
    cases e with
    | normal => exact hq.elim
    | _ => exact hq
end
theorem FnMR.nil0 {P : Program} {f : FuncId} {io : List Blk} {args : List AV} {post : AV → List Blk → Prop} (h : FnMR P f io args (fun x io' => ∃ r, (x = r ∨ (x = .val (.slice none 0 0) ∧ ∃ sh, r = .arr sh [])) ∧ post r io')) : FnMR P f io args post :=
  ⟨h.1, fun w φ fp S vs h1 h2 => (h.2 w φ fp S vs h1 h2).mono fun _ _ ⟨x, v, io', φ', fp', S', m', g1, ⟨r, g2, g3⟩, g4, g5, q1⟩ =>
    ⟨r, v, io', φ', fp', S', m', g1, g3, g4, g5, by
      rcases g2 with rfl | ⟨rfl, sh, rfl⟩
      · exact q1
      · cases q1 with
        | val _ h => exact .nil _ _⟩⟩
end Go.Vc


set_option linter.unusedVariables false
set_option linter.unusedSimpArgs false
set_option linter.unnecessarySimpa false
namespace Go.Vc
section
variable {P : Program} {B : Base} {N : Nat} {φ : Nat → LS} {fp : Nat → List Nat} {S : Nat → Prop} {ts : Env} {m : Mem} {a : Act} {w : World}
theorem known_look {m m' : Mem} (he : ∀ l, lookB m' l = lookB m l) {l ver : Nat} (h : known m l ver) : known m' l ver := by
  obtain ⟨k, h1, h2⟩ := h
  exact ⟨k, (he l).trans h1, h2⟩
theorem RS.look (h : RS B N φ fp S ts m a w) {m' : Mem} (he : ∀ l, lookB m' l = lookB m l) : RS B N φ fp S ts m' a w :=
  { h with
    tl := fun t l ver hl => known_look he (h.tl t l ver hl)
    mNone := fun l hl => h.mNone l ((he l).symm.trans hl)
    mSome := fun l k hl => h.mSome l k ((he l).symm.trans hl)
    bl := fun l v xs hl l' ver hx => known_look he (h.bl l v xs ((he l).symm.trans hl) l' ver hx)
    kn := fun l ver h1 h2 => known_look he (h.kn l ver h1 h2) }
theorem look_head {m : Mem} {l : Nat} {k : Blk} (hk : lookB m l = some k) : ∀ l', lookB ((l, k) :: m) l' = lookB m l' := fun l' => by
  rw [lookB_cons]
  split
  · rename_i e; subst e; exact hk.symm
  · rfl
theorem sCallT_ioH {f : FuncId} {d : Nat} {xs trs : List AV} {k : AV → Mem → Prop} (l : Nat) (b : Blk) (hb : lookB m l = some b) (ρ : List Nat)
    (h : sSel ((l, b) :: m) (fun io => sRens ρ (fun args => sCallM P f d ρ io args ((l, b) :: m) k ⟨⟩) [] xs) [] ρ) {q : Pack k} : sCallT P f d xs trs m k q := by
  refine .inl fun B N φ fp S ts a w vs hRS hsz hx hxl => ?_
  have hR2 := hRS.look (look_head hb)
  obtain ⟨hnd, io, h1, h2, h3⟩ := sSel_out ρ [] h
  rw [List.reverse_nil, uq3] at h1
  obtain ⟨args, g1, g2, g3⟩ := rens_out (w := w) (S := S) (φ := φ) h2 h3 xs vs.toList [] (by simpa using hsz) hx (fun i hi l' ver hl => known_look (look_head hb) (hxl i hi l' ver hl)) h1
  rw [List.reverse_nil, uq3] at g1
  obtain ⟨post, hf, hk⟩ := g1
  exact ⟨hf.1, callM_sound hnd h2 h3 hR2 (hsz.trans g2.symm) g3 hf hk (xs := xs)⟩
end
end Go.Vc


set_option linter.unusedVariables false
set_option linter.unusedSimpArgs false
set_option linter.unnecessarySimpa false
namespace Go.Proofs
open Go.Shelf
def Tryz.layFormat_ren : Go.Shelf.Ren := ⟨fun | 173 => 118 | 246 => 144 | 283 => 195 | 284 => 196 | 285 => 197 | 286 => 198 | 129 => 257 | 317 => 256 | 318 => 258 | 319 => 259 | 320 => 260 | 337 => 301 | 338 => 302 | n => n, fun | 2 => 2 | 3 => 3 | 9 => 9 | 4 => 4 | 171 => 201 | 0 => 0 | 53 => 202 | 37 => 22 | 5 => 5 | 173 => 205 | 212 => 251 | 51 => 252 | 20 => 20 | 213 => 253 | 46 => 174 | 232 => 294 | 233 => 295 | n => n, fun | 17 => 1 | 18 => 6 | 19 => 7 | n => n⟩
theorem Tryz.layFormat : Go.Proofs.LaysM.n173 Tryz.prog Tryz.layFormat_ren := {
  mixed := by kernel_rfl
  f129 := Tryz.func257.trans (congrArg some (by kernel_rfl))
  f173 := Tryz.func118.trans (congrArg some (by kernel_rfl))
  f246 := Tryz.func144.trans (congrArg some (by kernel_rfl))
  f283 := Tryz.func195.trans (congrArg some (by kernel_rfl))
  f284 := Tryz.func196.trans (congrArg some (by kernel_rfl))
  f285 := Tryz.func197.trans (congrArg some (by kernel_rfl))
  f286 := Tryz.func198.trans (congrArg some (by kernel_rfl))
  f317 := Tryz.func256.trans (congrArg some (by kernel_rfl))
  f318 := Tryz.func258.trans (congrArg some (by kernel_rfl))
  f319 := Tryz.func259.trans (congrArg some (by kernel_rfl))
  f320 := Tryz.func260.trans (congrArg some (by kernel_rfl))
  f337 := Tryz.func301.trans (congrArg some (by kernel_rfl))
  f338 := Tryz.func302.trans (congrArg some (by kernel_rfl))
  t0 := Tryz.underlying0
  a0 := Tryz.isAgg0
  z0 := Tryz.sizeOf0
  v0 := Tryz.zeroValue0
  t2 := Tryz.underlying2
  a2 := Tryz.isAgg2
  z2 := Tryz.sizeOf2
  v2 := Tryz.zeroValue2
  t3 := Tryz.underlying3
  a3 := Tryz.isAgg3
  z3 := Tryz.sizeOf3
  v3 := Tryz.zeroValue3
  t4 := Tryz.underlying4
  a4 := Tryz.isAgg4
  z4 := Tryz.sizeOf4
  v4 := Tryz.zeroValue4
  t5 := Tryz.underlying5
  a5 := Tryz.isAgg5
  z5 := Tryz.sizeOf5
  v5 := Tryz.zeroValue5
  t9 := Tryz.underlying9
  a9 := Tryz.isAgg9
  z9 := Tryz.sizeOf9
  v9 := Tryz.zeroValue9
  t20 := Tryz.underlying20
  a20 := Tryz.isAgg20
  z20 := Tryz.sizeOf20
  v20 := Tryz.zeroValue20
  t37 := Tryz.underlying22
  a37 := Tryz.isAgg22
  z37 := Tryz.sizeOf22
  v37 := Tryz.zeroValue22
  t46 := Tryz.underlying174
  a46 := Tryz.isAgg174
  z46 := Tryz.sizeOf174
  v46 := Tryz.zeroValue174
  t51 := Tryz.underlying252
  a51 := Tryz.isAgg252
  z51 := Tryz.sizeOf252
  v51 := Tryz.zeroValue252
  t53 := Tryz.underlying202
  a53 := Tryz.isAgg202
  z53 := Tryz.sizeOf202
  v53 := Tryz.zeroValue202
  t171 := Tryz.underlying201
  a171 := Tryz.isAgg201
  z171 := Tryz.sizeOf201
  v171 := Tryz.zeroValue201
  t173 := Tryz.underlying205
  a173 := Tryz.isAgg205
  z173 := Tryz.sizeOf205
  v173 := Tryz.zeroValue205
  t212 := Tryz.underlying251
  a212 := Tryz.isAgg251
  z212 := Tryz.sizeOf251
  v212 := Tryz.zeroValue251
  t213 := Tryz.underlying253
  a213 := Tryz.isAgg253
  z213 := Tryz.sizeOf253
  t232 := Tryz.underlying294
  a232 := Tryz.isAgg294
  z232 := Tryz.sizeOf294
  v232 := Tryz.zeroValue294
  t233 := Tryz.underlying295
  a233 := Tryz.isAgg295
  z233 := Tryz.sizeOf295
  v233 := Tryz.zeroValue295
  g17 := by kernel_rfl
  g18 := by kernel_rfl
  g19 := by kernel_rfl
  i0 := by kernel_rfl
  i2 := by kernel_rfl
  i3 := by kernel_rfl
  i4 := by kernel_rfl
  i5 := by kernel_rfl
  i9 := by kernel_rfl
  i20 := by kernel_rfl
  i37 := by kernel_rfl
  i46 := by kernel_rfl
  i51 := by kernel_rfl
  i53 := by kernel_rfl
  i171 := by kernel_rfl
  i173 := by kernel_rfl
  i212 := by kernel_rfl
  i232 := by kernel_rfl
  i233 := by kernel_rfl
  m17 := by kernel_rfl
  m18 := by kernel_rfl
  m19 := by kernel_rfl }
def Tryz.layParse_ren : Go.Shelf.Ren := ⟨fun | 174 => 127 | 247 => 156 | 245 => 157 | 287 => 208 | 279 => 209 | 280 => 210 | 281 => 211 | 282 => 212 | 321 => 264 | 322 => 265 | 316 => 266 | 171 => 268 | 205 => 267 | 243 => 303 | 246 => 144 | 283 => 195 | 284 => 196 | 285 => 197 | 286 => 198 | 129 => 257 | 317 => 256 | 318 => 258 | 319 => 259 | 320 => 260 | 337 => 301 | 338 => 302 | n => n, fun | 9 => 9 | 3 => 3 | 2 => 2 | 75 => 134 | 85 => 143 | 4 => 4 | 167 => 216 | 5 => 5 | 53 => 202 | 175 => 217 | 46 => 174 | 168 => 219 | 37 => 22 | 0 => 0 | 210 => 265 | 21 => 21 | 127 => 156 | 145 => 289 | 143 => 287 | 171 => 201 | 173 => 205 | 212 => 251 | 51 => 252 | 20 => 20 | 213 => 253 | 232 => 294 | 233 => 295 | 80 => 137 | n => n, fun | 15 => 4 | 16 => 5 | 17 => 1 | 18 => 6 | 19 => 7 | n => n⟩
theorem Tryz.layParse : Go.Proofs.LaysC.n174 Tryz.prog Tryz.layParse_ren := {
  mixed := by kernel_rfl
  f129 := Tryz.func257.trans (congrArg some (by kernel_rfl))
  f171 := Tryz.func268.trans (congrArg some (by kernel_rfl))
  f174 := Tryz.func127.trans (congrArg some (by kernel_rfl))
  f205 := Tryz.func267.trans (congrArg some (by kernel_rfl))
  f243 := Tryz.func303.trans (congrArg some (by kernel_rfl))
  f245 := Tryz.func157.trans (congrArg some (by kernel_rfl))
  f246 := Tryz.func144.trans (congrArg some (by kernel_rfl))
  f247 := Tryz.func156.trans (congrArg some (by kernel_rfl))
  f279 := Tryz.func209.trans (congrArg some (by kernel_rfl))
  f280 := Tryz.func210.trans (congrArg some (by kernel_rfl))
  f281 := Tryz.func211.trans (congrArg some (by kernel_rfl))
  f282 := Tryz.func212.trans (congrArg some (by kernel_rfl))
  f283 := Tryz.func195.trans (congrArg some (by kernel_rfl))
  f284 := Tryz.func196.trans (congrArg some (by kernel_rfl))
  f285 := Tryz.func197.trans (congrArg some (by kernel_rfl))
  f286 := Tryz.func198.trans (congrArg some (by kernel_rfl))
  f287 := Tryz.func208.trans (congrArg some (by kernel_rfl))
  f316 := Tryz.func266.trans (congrArg some (by kernel_rfl))
  f317 := Tryz.func256.trans (congrArg some (by kernel_rfl))
  f318 := Tryz.func258.trans (congrArg some (by kernel_rfl))
  f319 := Tryz.func259.trans (congrArg some (by kernel_rfl))
  f320 := Tryz.func260.trans (congrArg some (by kernel_rfl))
  f321 := Tryz.func264.trans (congrArg some (by kernel_rfl))
  f322 := Tryz.func265.trans (congrArg some (by kernel_rfl))
  f337 := Tryz.func301.trans (congrArg some (by kernel_rfl))
  f338 := Tryz.func302.trans (congrArg some (by kernel_rfl))
  t0 := Tryz.underlying0
  a0 := Tryz.isAgg0
  z0 := Tryz.sizeOf0
  v0 := Tryz.zeroValue0
  t2 := Tryz.underlying2
  a2 := Tryz.isAgg2
  z2 := Tryz.sizeOf2
  v2 := Tryz.zeroValue2
  t3 := Tryz.underlying3
  a3 := Tryz.isAgg3
  z3 := Tryz.sizeOf3
  v3 := Tryz.zeroValue3
  t4 := Tryz.underlying4
  a4 := Tryz.isAgg4
  z4 := Tryz.sizeOf4
  v4 := Tryz.zeroValue4
  t5 := Tryz.underlying5
  a5 := Tryz.isAgg5
  z5 := Tryz.sizeOf5
  v5 := Tryz.zeroValue5
  t9 := Tryz.underlying9
  a9 := Tryz.isAgg9
  z9 := Tryz.sizeOf9
  v9 := Tryz.zeroValue9
  t20 := Tryz.underlying20
  a20 := Tryz.isAgg20
  z20 := Tryz.sizeOf20
  v20 := Tryz.zeroValue20
  t21 := Tryz.underlying21
  a21 := Tryz.isAgg21
  z21 := Tryz.sizeOf21
  v21 := Tryz.zeroValue21
  t37 := Tryz.underlying22
  a37 := Tryz.isAgg22
  z37 := Tryz.sizeOf22
  v37 := Tryz.zeroValue22
  t46 := Tryz.underlying174
  a46 := Tryz.isAgg174
  z46 := Tryz.sizeOf174
  v46 := Tryz.zeroValue174
  t51 := Tryz.underlying252
  a51 := Tryz.isAgg252
  z51 := Tryz.sizeOf252
  v51 := Tryz.zeroValue252
  t53 := Tryz.underlying202
  a53 := Tryz.isAgg202
  z53 := Tryz.sizeOf202
  v53 := Tryz.zeroValue202
  t75 := Tryz.underlying134
  a75 := Tryz.isAgg134
  z75 := Tryz.sizeOf134
  v75 := Tryz.zeroValue134
  t85 := Tryz.underlying143
  a85 := Tryz.isAgg143
  z85 := Tryz.sizeOf143
  v85 := Tryz.zeroValue143
  t127 := Tryz.underlying156
  a127 := Tryz.isAgg156
  z127 := Tryz.sizeOf156
  v127 := Tryz.zeroValue156
  t143 := Tryz.underlying287
  a143 := Tryz.isAgg287
  z143 := Tryz.sizeOf287
  v143 := Tryz.zeroValue287
  t145 := Tryz.underlying289
  a145 := Tryz.isAgg289
  z145 := Tryz.sizeOf289
  v145 := Tryz.zeroValue289
  t167 := Tryz.underlying216
  a167 := Tryz.isAgg216
  z167 := Tryz.sizeOf216
  v167 := Tryz.zeroValue216
  t168 := Tryz.underlying219
  a168 := Tryz.isAgg219
  z168 := Tryz.sizeOf219
  v168 := Tryz.zeroValue219
  t171 := Tryz.underlying201
  a171 := Tryz.isAgg201
  z171 := Tryz.sizeOf201
  v171 := Tryz.zeroValue201
  t173 := Tryz.underlying205
  a173 := Tryz.isAgg205
  z173 := Tryz.sizeOf205
  v173 := Tryz.zeroValue205
  t175 := Tryz.underlying217
  a175 := Tryz.isAgg217
  z175 := Tryz.sizeOf217
  v175 := Tryz.zeroValue217
  t210 := Tryz.underlying265
  a210 := Tryz.isAgg265
  z210 := Tryz.sizeOf265
  v210 := Tryz.zeroValue265
  t212 := Tryz.underlying251
  a212 := Tryz.isAgg251
  z212 := Tryz.sizeOf251
  v212 := Tryz.zeroValue251
  t213 := Tryz.underlying253
  a213 := Tryz.isAgg253
  z213 := Tryz.sizeOf253
  t232 := Tryz.underlying294
  a232 := Tryz.isAgg294
  z232 := Tryz.sizeOf294
  v232 := Tryz.zeroValue294
  t233 := Tryz.underlying295
  a233 := Tryz.isAgg295
  z233 := Tryz.sizeOf295
  v233 := Tryz.zeroValue295
  g15 := by kernel_rfl
  g16 := by kernel_rfl
  g17 := by kernel_rfl
  g18 := by kernel_rfl
  g19 := by kernel_rfl
  t80 := Tryz.underlying137
  a80 := Tryz.isAgg137
  z80 := Tryz.sizeOf137
  v80 := Tryz.zeroValue137
  i0 := by kernel_rfl
  i2 := by kernel_rfl
  i3 := by kernel_rfl
  i4 := by kernel_rfl
  i5 := by kernel_rfl
  i9 := by kernel_rfl
  i20 := by kernel_rfl
  i21 := by kernel_rfl
  i37 := by kernel_rfl
  i46 := by kernel_rfl
  i51 := by kernel_rfl
  i53 := by kernel_rfl
  i75 := by kernel_rfl
  i80 := by kernel_rfl
  i85 := by kernel_rfl
  i127 := by kernel_rfl
  i143 := by kernel_rfl
  i145 := by kernel_rfl
  i167 := by kernel_rfl
  i168 := by kernel_rfl
  i171 := by kernel_rfl
  i173 := by kernel_rfl
  i175 := by kernel_rfl
  i210 := by kernel_rfl
  i212 := by kernel_rfl
  i232 := by kernel_rfl
  i233 := by kernel_rfl
  m15 := by kernel_rfl
  m16 := by kernel_rfl
  m17 := by kernel_rfl
  m18 := by kernel_rfl
  m19 := by kernel_rfl
  c0 := by kernel_rfl
  c2 := by kernel_rfl
  c3 := by kernel_rfl
  c4 := by kernel_rfl
  c5 := by kernel_rfl
  c9 := by kernel_rfl
  c20 := by kernel_rfl
  c21 := by kernel_rfl
  c37 := by kernel_rfl
  c46 := by kernel_rfl
  c51 := by kernel_rfl
  c53 := by kernel_rfl
  c75 := by kernel_rfl
  c80 := by kernel_rfl
  c85 := by kernel_rfl
  c127 := by kernel_rfl
  c143 := by kernel_rfl
  c145 := by kernel_rfl
  c167 := by kernel_rfl
  c168 := by kernel_rfl
  c171 := by kernel_rfl
  c173 := by kernel_rfl
  c175 := by kernel_rfl
  c210 := by kernel_rfl
  c212 := by kernel_rfl
  c213 := by kernel_rfl
  c232 := by kernel_rfl
  c233 := by kernel_rfl }
def Tryz.laySplit_ren : Go.Shelf.Ren := ⟨fun | 146 => 51 | 221 => 92 | 268 => 124 | 138 => 125 | 143 => 126 | 195 => 152 | 197 => 153 | 218 => 154 | 219 => 155 | 260 => 203 | 217 => 204 | 225 => 205 | 224 => 206 | 267 => 207 | 266 => 262 | 314 => 263 | n => n, fun | 9 => 9 | 31 => 51 | 3 => 3 | 4 => 4 | 0 => 0 | 105 => 163 | 21 => 21 | 5 => 5 | 46 => 174 | 119 => 257 | 139 => 260 | 138 => 259 | 146 => 261 | 51 => 252 | n => n, fun | 1 => 0 | 3 => 2 | 4 => 3 | n => n⟩
theorem Tryz.laySplit : Go.Proofs.Lays.n146 Tryz.prog Tryz.laySplit_ren := {
  mixed := by kernel_rfl
  f138 := Tryz.func125.trans (congrArg some (by kernel_rfl))
  f143 := Tryz.func126.trans (congrArg some (by kernel_rfl))
  f146 := Tryz.func51.trans (congrArg some (by kernel_rfl))
  f195 := Tryz.func152.trans (congrArg some (by kernel_rfl))
  f197 := Tryz.func153.trans (congrArg some (by kernel_rfl))
  f217 := Tryz.func204.trans (congrArg some (by kernel_rfl))
  f218 := Tryz.func154.trans (congrArg some (by kernel_rfl))
  f219 := Tryz.func155.trans (congrArg some (by kernel_rfl))
  f221 := Tryz.func92.trans (congrArg some (by kernel_rfl))
  f224 := Tryz.func206.trans (congrArg some (by kernel_rfl))
  f225 := Tryz.func205.trans (congrArg some (by kernel_rfl))
  f260 := Tryz.func203.trans (congrArg some (by kernel_rfl))
  f266 := Tryz.func262.trans (congrArg some (by kernel_rfl))
  f267 := Tryz.func207.trans (congrArg some (by kernel_rfl))
  f268 := Tryz.func124.trans (congrArg some (by kernel_rfl))
  f314 := Tryz.func263.trans (congrArg some (by kernel_rfl))
  t0 := Tryz.underlying0
  a0 := Tryz.isAgg0
  z0 := Tryz.sizeOf0
  v0 := Tryz.zeroValue0
  t3 := Tryz.underlying3
  a3 := Tryz.isAgg3
  z3 := Tryz.sizeOf3
  v3 := Tryz.zeroValue3
  t4 := Tryz.underlying4
  a4 := Tryz.isAgg4
  z4 := Tryz.sizeOf4
  v4 := Tryz.zeroValue4
  t5 := Tryz.underlying5
  a5 := Tryz.isAgg5
  z5 := Tryz.sizeOf5
  v5 := Tryz.zeroValue5
  t9 := Tryz.underlying9
  a9 := Tryz.isAgg9
  z9 := Tryz.sizeOf9
  v9 := Tryz.zeroValue9
  t21 := Tryz.underlying21
  a21 := Tryz.isAgg21
  z21 := Tryz.sizeOf21
  v21 := Tryz.zeroValue21
  t31 := Tryz.underlying51
  a31 := Tryz.isAgg51
  z31 := Tryz.sizeOf51
  v31 := Tryz.zeroValue51
  t46 := Tryz.underlying174
  a46 := Tryz.isAgg174
  z46 := Tryz.sizeOf174
  v46 := Tryz.zeroValue174
  t51 := Tryz.underlying252
  a51 := Tryz.isAgg252
  z51 := Tryz.sizeOf252
  v51 := Tryz.zeroValue252
  t105 := Tryz.underlying163
  a105 := Tryz.isAgg163
  z105 := Tryz.sizeOf163
  v105 := Tryz.zeroValue163
  t119 := Tryz.underlying257
  a119 := Tryz.isAgg257
  z119 := Tryz.sizeOf257
  t138 := Tryz.underlying259
  a138 := Tryz.isAgg259
  z138 := Tryz.sizeOf259
  v138 := Tryz.zeroValue259
  t139 := Tryz.underlying260
  a139 := Tryz.isAgg260
  z139 := Tryz.sizeOf260
  v139 := Tryz.zeroValue260
  t146 := Tryz.underlying261
  a146 := Tryz.isAgg261
  z146 := Tryz.sizeOf261
  v146 := Tryz.zeroValue261
  g1 := by kernel_rfl
  g3 := by kernel_rfl
  g4 := by kernel_rfl }
def Tryz.layJoin_ren : Go.Shelf.Ren := ⟨fun | 156 => 88 | 165 => 119 | 166 => 120 | 169 => 121 | 240 => 145 | 241 => 146 | 276 => 199 | 277 => 200 | n => n, fun | 31 => 51 | 9 => 9 | 3 => 3 | 4 => 4 | 0 => 0 | 20 => 20 | 72 => 131 | 76 => 135 | 70 => 129 | 37 => 22 | 75 => 134 | 127 => 156 | 164 => 207 | 5 => 5 | 80 => 137 | n => n, fun | n => n⟩
theorem Tryz.layJoin : Go.Proofs.Lays.n156 Tryz.prog Tryz.layJoin_ren := {
  mixed := by kernel_rfl
  f156 := Tryz.func88.trans (congrArg some (by kernel_rfl))
  f165 := Tryz.func119.trans (congrArg some (by kernel_rfl))
  f166 := Tryz.func120.trans (congrArg some (by kernel_rfl))
  f169 := Tryz.func121.trans (congrArg some (by kernel_rfl))
  f240 := Tryz.func145.trans (congrArg some (by kernel_rfl))
  f241 := Tryz.func146.trans (congrArg some (by kernel_rfl))
  f276 := Tryz.func199.trans (congrArg some (by kernel_rfl))
  f277 := Tryz.func200.trans (congrArg some (by kernel_rfl))
  t0 := Tryz.underlying0
  a0 := Tryz.isAgg0
  z0 := Tryz.sizeOf0
  v0 := Tryz.zeroValue0
  t3 := Tryz.underlying3
  a3 := Tryz.isAgg3
  z3 := Tryz.sizeOf3
  v3 := Tryz.zeroValue3
  t4 := Tryz.underlying4
  a4 := Tryz.isAgg4
  z4 := Tryz.sizeOf4
  v4 := Tryz.zeroValue4
  t9 := Tryz.underlying9
  a9 := Tryz.isAgg9
  z9 := Tryz.sizeOf9
  v9 := Tryz.zeroValue9
  t20 := Tryz.underlying20
  a20 := Tryz.isAgg20
  z20 := Tryz.sizeOf20
  v20 := Tryz.zeroValue20
  t31 := Tryz.underlying51
  a31 := Tryz.isAgg51
  z31 := Tryz.sizeOf51
  v31 := Tryz.zeroValue51
  t37 := Tryz.underlying22
  a37 := Tryz.isAgg22
  z37 := Tryz.sizeOf22
  v37 := Tryz.zeroValue22
  t70 := Tryz.underlying129
  a70 := Tryz.isAgg129
  z70 := Tryz.sizeOf129
  v70 := Tryz.zeroValue129
  t72 := Tryz.underlying131
  a72 := Tryz.isAgg131
  z72 := Tryz.sizeOf131
  v72 := Tryz.zeroValue131
  t75 := Tryz.underlying134
  a75 := Tryz.isAgg134
  z75 := Tryz.sizeOf134
  v75 := Tryz.zeroValue134
  t76 := Tryz.underlying135
  a76 := Tryz.isAgg135
  z76 := Tryz.sizeOf135
  v76 := Tryz.zeroValue135
  t127 := Tryz.underlying156
  a127 := Tryz.isAgg156
  z127 := Tryz.sizeOf156
  v127 := Tryz.zeroValue156
  t164 := Tryz.underlying207
  a164 := Tryz.isAgg207
  z164 := Tryz.sizeOf207
  v164 := Tryz.zeroValue207 }
theorem Tryz.extraJoin : Builder.Extra Tryz.prog Tryz.layJoin_ren := {
  sizeBuilder := by kernel_rfl
  liesBuilder := by kernel_rfl
  t5 := Tryz.underlying5
  a5 := Tryz.isAgg5
  z5 := Tryz.sizeOf5
  v5 := Tryz.zeroValue5
  infoByte := by kernel_rfl
  cellsByte := by kernel_rfl
  sizeByte := by kernel_rfl
  neB5 := by decide }
end Go.Proofs


set_option linter.unusedVariables false
set_option linter.unusedSimpArgs false
set_option linter.unnecessarySimpa false
namespace Go.Vc
end Go.Vc


set_option linter.unusedVariables false
set_option linter.unusedSimpArgs false
set_option linter.unnecessarySimpa false
namespace Go.Vc
open Go.Sort
section
variable {P : Program} {m : Mem}
end
end Go.Vc


set_option linter.unusedVariables false
set_option linter.unusedSimpArgs false
set_option linter.unnecessarySimpa false
namespace Go.Vc
section
variable {P : Program} {m : Mem}
end
end Go.Vc


set_option linter.unusedVariables false
set_option linter.unusedSimpArgs false
set_option linter.unnecessarySimpa false
namespace Go.Vc
abbrev eI (n : Int) : AV := .val (.int .i64 n)
abbrev eB (b : Bool) : AV := .val (.bool b)
abbrev eIs (xs : List Int) : AV := .arr ⟨1, false⟩ (xs.map eI)
theorem all_take {α : Type} (p : α → Bool) (xs : List α) (i : Nat) (h : i < xs.length) : (xs.take (i + 1)).all p = ((xs.take i).all p && p xs[i]) := by
  rw [List.take_succ_eq_append_getElem h, List.all_append]; simp
theorem all_no {α : Type} {p : α → Bool} {xs : List α} {i : Nat} (h : i < xs.length) (hp : p xs[i] = false) : xs.all p = false := by
  rw [List.all_eq_false]; exact ⟨xs[i], List.getElem_mem h, by simp [hp]⟩
def fill {α β : Type} (f : α → β) (z : β) (xs : List α) (i : Nat) : List β := (xs.take i).map f ++ List.replicate (xs.length - i) z
theorem take_map_len {α β : Type} (f : α → β) (xs : List α) : (xs.map f).take xs.length = xs.map f := by rw [← List.map_take, List.take_length]
attribute [go_sem] take_map_len
theorem lt_len {i n : Nat} (h : i < n) : decide ((i : Int) < (n : Int)) = true := decide_eq_true (by omega)
theorem nlt_len (n : Nat) : decide ((n : Int) < (n : Int)) = false := decide_eq_false (by omega)
theorem get_some {α : Type} {xs : List α} {i : Nat} (h : i < xs.length) : xs[i]? = some xs[i] := List.getElem?_eq_getElem h
theorem isFlatL_map {α : Type} {f : α → AV} (xs : List α) (h : ∀ x, isFlat (f x) = true) : isFlatL (xs.map f) = true := by
  induction xs with
  | nil => rfl
  | cons x r ih => rw [List.map_cons, isFlatL_cons, h, ih]; rfl
theorem rep0 {α : Type} (z : α) : List.replicate 0 z = [] := rfl
theorem rep1 {α : Type} (z : α) : List.replicate 1 z = [z] := rfl
theorem rep2 {α : Type} (z : α) : List.replicate 2 z = [z, z] := rfl
theorem rep3 {α : Type} (z : α) : List.replicate 3 z = [z, z, z] := rfl
theorem rep4 {α : Type} (z : α) : List.replicate 4 z = [z, z, z, z] := rfl
theorem rep5 {α : Type} (z : α) : List.replicate 5 z = [z, z, z, z, z] := rfl
theorem rep7 {α : Type} (z : α) : List.replicate 7 z = [z, z, z, z, z, z, z] := rfl
theorem rep8 {α : Type} (z : α) : List.replicate 8 z = [z, z, z, z, z, z, z, z] := rfl
theorem rep9 {α : Type} (z : α) : List.replicate 9 z = [z, z, z, z, z, z, z, z, z] := rfl
theorem rep10 {α : Type} (z : α) : List.replicate 10 z = [z, z, z, z, z, z, z, z, z, z] := rfl
attribute [go_sem] isFlatL_map List.take_take Nat.min_self List.map_take List.append_nil List.length_append List.length_take rep0 rep1 rep2 rep3 rep4 rep5 rep7 rep8 rep9 rep10
theorem ioL_eq : ioL = 1000000000 := rfl
attribute [go_sem] ne_eq not_false_eq_true ioL_eq decide_true decide_false Bool.not_true Bool.not_false bne_self_eq_false
attribute [go_sem] List.length_set
end Go.Vc


set_option linter.unusedVariables false
set_option linter.unusedSimpArgs false
set_option linter.unnecessarySimpa false
namespace Go.Vc
open Go.Proofs

theorem ti2 : tiOf Tryz.prog 2 = some ⟨false, 1, 8, .val (.int .i64 0), [], 0, .int .i64⟩ := by kernel_rfl
theorem ti3 : tiOf Tryz.prog 3 = some ⟨false, 1, 8, .val (.int .i64 0), [], 0, .int .i64⟩ := by kernel_rfl
theorem ti4 : tiOf Tryz.prog 4 = some ⟨false, 1, 1, .val (.bool false), [], 0, .bool⟩ := by kernel_rfl
theorem ti5 : tiOf Tryz.prog 5 = some ⟨false, 1, 1, .val (.int .u8 0), [], 0, .int .u8⟩ := by kernel_rfl
theorem ti9 : tiOf Tryz.prog 9 = some ⟨false, 1, 16, .val (.string ⟨#[]⟩), [], 0, .string⟩ := by kernel_rfl
theorem ti22 : tiOf Tryz.prog 22 = some ⟨false, 1, 24, .val (.slice none 0 0), [], 5, .slice⟩ := by kernel_rfl
theorem ti25 : tiOf Tryz.prog 25 = some ⟨true, 5, 40, .agg [.val (.int .i64 0), .val (.int .i64 0), .val (.int .i64 0), .val (.int .i64 0), .val (.int .i64 0)], [(0, 1, false), (1, 1, false), (2, 1, false), (3, 1, false), (4, 1, false)], 0, .struct⟩ := by kernel_rfl
theorem ti26 : tiOf Tryz.prog 26 = some ⟨false, 1, 24, .val (.slice none 0 0), [], 69, .slice⟩ := by kernel_rfl
theorem ti28 : tiOf Tryz.prog 28 = some ⟨true, 6, 64, .agg [.val (.int .i64 0), .val (.int .i64 0), .val (.int .i64 0), .val (.int .i64 0), .val (.int .i64 0), .val (.slice none 0 0)], [(0, 5, true), (5, 1, false)], 0, .struct⟩ := by kernel_rfl
theorem ti29 : tiOf Tryz.prog 29 = some ⟨false, 1, 24, .val (.slice none 0 0), [], 73, .slice⟩ := by kernel_rfl
theorem ti51 : tiOf Tryz.prog 51 = some ⟨false, 1, 24, .val (.slice none 0 0), [], 9, .slice⟩ := by kernel_rfl
theorem ti69 : tiOf Tryz.prog 69 = some ⟨false, 1, 24, .val (.slice none 0 0), [], 2, .slice⟩ := by kernel_rfl
theorem ti73 : tiOf Tryz.prog 73 = some ⟨true, 3, 24, .agg [.val (.bool false), .val (.int .i64 0), .val (.int .i64 0)], [(0, 1, false), (1, 1, false), (2, 1, false)], 0, .struct⟩ := by kernel_rfl
theorem ti106 : tiOf Tryz.prog 106 = some ⟨true, 3, 40, .agg [.val (.slice none 0 0), .val (.int .i64 0), .val (.int .i64 0)], [(0, 1, false), (1, 1, false), (2, 1, false)], 0, .struct⟩ := by kernel_rfl
theorem ti134 : tiOf Tryz.prog 134 = some ⟨false, 1, 16, .val .nilIface, [], 0, .iface⟩ := by kernel_rfl
theorem ti168 : tiOf Tryz.prog 168 = some ⟨false, 1, 24, .val (.slice none 0 0), [], 4, .slice⟩ := by kernel_rfl
theorem ti170 : tiOf Tryz.prog 170 = some ⟨true, 2, 48, .agg [.val (.slice none 0 0), .val (.slice none 0 0)], [(0, 1, false), (1, 1, false)], 0, .struct⟩ := by kernel_rfl
theorem ti172 : tiOf Tryz.prog 172 = some ⟨true, 3, 72, .agg [.val (.slice none 0 0), .val (.slice none 0 0), .val (.slice none 0 0)], [(0, 2, true), (2, 1, false)], 0, .struct⟩ := by kernel_rfl
theorem ti182 : tiOf Tryz.prog 182 = some ⟨false, 1, 24, .val (.slice none 0 0), [], 187, .slice⟩ := by kernel_rfl
theorem ti187 : tiOf Tryz.prog 187 = some ⟨true, 1, 24, .agg [.val (.slice none 0 0)], [(0, 1, false)], 0, .struct⟩ := by kernel_rfl
theorem ti211 : tiOf Tryz.prog 211 = some ⟨false, 1, 24, .val (.slice none 0 0), [], 26, .slice⟩ := by kernel_rfl
theorem ti213 : tiOf Tryz.prog 213 = some ⟨true, 11, 120, .agg [.val (.int .i64 0), .val (.int .i64 0), .val (.int .i64 0), .val (.int .i64 0), .val (.int .i64 0), .val (.slice none 0 0), .val (.int .i64 0), .val (.int .i64 0), .val (.int .i64 0), .val (.bool false), .val (.slice none 0 0)], [(0, 6, true), (6, 1, false), (7, 1, false), (8, 1, false), (9, 1, false), (10, 1, false)], 0, .struct⟩ := by kernel_rfl
attribute [go_sem] ti2 ti3 ti4 ti5 ti9
attribute [go_sem] ti22 ti25 ti26 ti28 ti29
attribute [go_sem] ti51
attribute [go_sem] ti69 ti73
attribute [go_sem] ti106
attribute [go_sem] ti134
attribute [go_sem] ti168 ti170 ti172
attribute [go_sem] ti182 ti187
attribute [go_sem] ti211 ti213
end Go.Vc


set_option linter.unusedVariables false
set_option linter.unusedSimpArgs false
set_option linter.unnecessarySimpa false
namespace Go.Vc
open Go.Lib
abbrev eS (bs : List UInt8) : AV := .val (.string ⟨bs.toArray⟩)
abbrev eSs (xs : List (List UInt8)) : AV := .arr ⟨1, false⟩ (xs.map eS)
theorem ba_append (a b : List UInt8) : (⟨a.toArray⟩ : ByteArray) ++ ⟨b.toArray⟩ = ⟨(a ++ b).toArray⟩ := by
  apply ByteArray.ext
  rw [ByteArray.data_append]
  simp
theorem ba_size (a : List UInt8) : (⟨a.toArray⟩ : ByteArray).size = a.length := by
  show a.toArray.size = _
  simp
theorem ba_data (a : List UInt8) : (⟨a.toArray⟩ : ByteArray).data.toList = a := rfl
theorem ba_list (a : List UInt8) : (⟨a.toArray⟩ : ByteArray).toList = a := by
  rw [ByteArray.toList_eq]
theorem ba_extract (a : List UInt8) (i j : Nat) : (⟨a.toArray⟩ : ByteArray).extract i j = ⟨((a.take j).drop i).toArray⟩ := by
  apply ByteArray.ext
  rw [ByteArray.data_extract]
  simp
  exact List.drop_take.symm
theorem dig_all (u : Nat) : ∀ c ∈ decDigits u, 48 ≤ c.toNat ∧ c.toNat ≤ 57 := by
  induction u using Nat.strongRecOn with
  | _ u ih =>
    have one : ∀ k, k < 10 → 48 ≤ (UInt8.ofNat (48 + k)).toNat ∧ (UInt8.ofNat (48 + k)).toNat ≤ 57 := by
      intro k hk
      rw [UInt8.toNat_ofNat_of_lt' (by show 48 + k < 256; omega)]; omega
    by_cases h : u < 10
    · rw [decDigits, dif_pos h]
      intro c hc
      rw [List.mem_singleton] at hc; subst hc
      exact one u h
    · rw [decDigits, dif_neg h]
      intro c hc
      rcases List.mem_append.1 hc with hc | hc
      · exact ih (u / 10) (by omega) c hc
      · rw [List.mem_singleton] at hc; subst hc
        exact one (u % 10) (by omega)
def dval (acc : Nat) (l : List UInt8) : Nat := l.foldl (fun a c => a * 10 + (c.toNat - 48)) acc
theorem dval_nil (acc : Nat) : dval acc [] = acc := rfl
theorem dval_cons (acc : Nat) (c : UInt8) (r : List UInt8) : dval acc (c :: r) = dval (acc * 10 + (c.toNat - 48)) r := by simp only [dval, List.foldl_cons]
theorem dval_app (acc : Nat) (a b : List UInt8) : dval acc (a ++ b) = dval (dval acc a) b := List.foldl_append
theorem dval_ge : ∀ (l : List UInt8) (acc : Nat), acc ≤ dval acc l
  | [], acc => Nat.le_refl _
  | c :: r, acc => by
    rw [dval_cons]
    have := dval_ge r (acc * 10 + (c.toNat - 48))
    omega
theorem dval_lt : ∀ (l : List UInt8) (acc : Nat), (∀ c ∈ l, 48 ≤ c.toNat ∧ c.toNat ≤ 57) → dval acc l + 1 ≤ (acc + 1) * 10 ^ l.length
  | [], acc, _ => by simp [dval_nil]
  | c :: r, acc, h => by
    rw [dval_cons, List.length_cons, Nat.pow_succ]
    have h1 := h c (List.mem_cons_self ..)
    refine Nat.le_trans (dval_lt r _ fun x hx => h x (List.mem_cons_of_mem _ hx)) ?_
    rw [Nat.mul_comm (10 ^ r.length) 10, ← Nat.mul_assoc]
    exact Nat.mul_le_mul_right _ (by omega)
theorem dval_dec (u : Nat) : ∀ acc, dval acc (decDigits u) = acc * 10 ^ nDigits u + u := by
  induction u using Nat.strongRecOn with
  | _ u ih =>
    intro acc
    have one : ∀ k, k < 10 → (UInt8.ofNat (48 + k)).toNat - 48 = k := by
      intro k hk
      rw [UInt8.toNat_ofNat_of_lt' (by show 48 + k < 256; omega)]; omega
    by_cases h : u < 10
    · rw [decDigits, dif_pos h, nDigits_small h, dval_cons, dval_nil, one u h]
    · rw [decDigits, dif_neg h, nDigits_big h, dval_app, ih (u / 10) (by omega), dval_cons, dval_nil, one (u % 10) (by omega), Nat.pow_succ, Nat.add_mul, Nat.mul_assoc]
      omega
theorem dval_dec0 (u : Nat) : dval 0 (decDigits u) = u := by rw [dval_dec]; simp
theorem dec_ne (u : Nat) : decDigits u ≠ [] := by
  intro h
  have := decDigits_length u
  rw [h] at this
  have := nDigits_pos u
  simp at *; omega
theorem itoa_of_nonneg {n : Int} (h : 0 ≤ n) : itoa n = decDigits n.toNat := by unfold itoa; rw [if_neg (by omega)]
theorem parseM_ok (M : Nat) (hM : M ≤ 18446744073709551615) : ∀ (l : List UInt8) (acc : Nat), (∀ c ∈ l, 48 ≤ c.toNat ∧ c.toNat ≤ 57) → dval acc l ≤ M → parseUintM M acc l = .ok (dval acc l)
  | [], acc, _, _ => rfl
  | c :: r, acc, hd, hv => by
    have h1 := hd c (List.mem_cons_self ..)
    rw [dval_cons] at hv ⊢
    have h2 := dval_ge r (acc * 10 + (c.toNat - 48))
    rw [parseUintM, if_pos h1, if_neg (by omega), if_neg (by omega)]
    exact parseM_ok M hM r _ (fun x hx => hd x (List.mem_cons_of_mem _ hx)) hv
theorem parseB_dec (u : Nat) (h : u ≤ 18446744073709551615) : parseUintB 64 (decDigits u) = .ok u := by
  rw [parseUintB, if_neg (dec_ne u), parseM_ok _ (by decide) _ _ (dig_all u) (by rw [dval_dec0]; exact h), dval_dec0]
theorem parse_itoa {v : Int} (h : I64 v) : parseIntB 64 (itoa v) = .ok v := by
  obtain ⟨h0, h1⟩ := h
  have e63 : (2 : Nat) ^ (64 - 1) = 9223372036854775808 := by decide
  by_cases hn : v < 0
  · rw [itoa, if_pos hn]
    simp only [parseIntB]
    rw [if_pos (.inr rfl), parseB_dec _ (by omega)]
    simp only [e63]
    rw [if_neg (by rintro ⟨q, _⟩; exact q rfl), if_neg (by rintro ⟨_, q⟩; omega), if_pos (show (45 : UInt8).toNat = 45 from rfl)]
    congr 1; omega
  · rw [itoa, if_neg hn]
    have hd := dig_all v.toNat
    have hp := parseB_dec v.toNat (by omega)
    cases hl : decDigits v.toNat with
    | nil => exact absurd hl (dec_ne _)
    | cons c r =>
      rw [hl] at hd hp
      have hc := hd c (List.mem_cons_self ..)
      have n1 : ¬ c.toNat = 45 := by omega
      simp only [parseIntB, e63]
      rw [if_neg (by omega), hp]
      simp only []
      rw [if_neg (by omega), if_neg (by omega), if_neg n1]
      congr 1; omega
theorem parse_bound {l : List UInt8} {v : Int} (h : parseIntB 64 l = .ok v) : I64 v := by
  have e63 : (2 : Nat) ^ (64 - 1) = 9223372036854775808 := by decide
  unfold parseIntB at h
  cases l with
  | nil => cases h
  | cons c r =>
    simp only [e63] at h
    split at h
    · cases h
    · cases h
    · split at h
      · cases h
      · split at h
        · cases h
        · rename_i n1 n2
          injection h with h
          subst h
          unfold I64
          split <;> rename_i hc
          · have : ¬ 9223372036854775808 < _ := fun q => n2 ⟨hc, q⟩
            omega
          · have : ¬ 9223372036854775808 ≤ _ := fun q => n1 ⟨hc, q⟩
            omega
def numI (s : List UInt8) : Int × Bool := match parseIntB 64 s with
  | .ok v => (v, decide (itoa v = s))
  | .range => (intSat 64 s, false)
  | _ => (0, false)
theorem numI_itoa {v : Int} (h : I64 v) : numI (itoa v) = (v, true) := by rw [numI, parse_itoa h]; simp
def valD (s : List UInt8) : Int × Bool :=
  if s.length < 1 ∨ 13 < s.length then (0, false) else
    if (s.all fun c => decide (48 ≤ c.toNat) && decide (c.toNat ≤ 57)) = true then ((dval 0 s : Nat), decide (decDigits (dval 0 s) = s)) else (0, false)
theorem valD_dec {u : Nat} (h : nDigits u ≤ 13) : valD (decDigits u) = ((u : Int), true) := by
  have h1 := nDigits_pos u
  rw [valD, if_neg (by rw [decDigits_length]; omega), if_pos, dval_dec0]
  · simp
  · rw [List.all_eq_true]
    intro c hc
    have := dig_all u c hc
    simp; omega
def spl (c : UInt8) : List UInt8 → List (List UInt8)
  | [] => [[]]
  | b :: l => if b = c then [] :: spl c l else match spl c l with
    | h :: t => (b :: h) :: t
    | [] => [[b]]
theorem spl_none {c : UInt8} : ∀ {l : List UInt8}, c ∉ l → spl c l = [l]
  | [], _ => rfl
  | b :: l, h => by
    rw [spl, if_neg (fun e => h (by rw [e]; exact List.mem_cons_self ..)), spl_none (fun q => h (List.mem_cons_of_mem _ q))]
theorem spl_app {c : UInt8} : ∀ {a : List UInt8} (r : List UInt8), c ∉ a → spl c (a ++ c :: r) = a :: spl c r
  | [], r, _ => by rw [uq3, spl, if_pos rfl]
  | b :: l, r, h => by
    rw [uq2, spl, if_neg (fun e => h (by rw [e]; exact List.mem_cons_self ..)), spl_app r (fun q => h (List.mem_cons_of_mem _ q))]
theorem spl_take {c : UInt8} {l : List UInt8} {i : Nat} (hi : l[i]? = some c) (hno : ∀ k, k < i → l[k]? ≠ some c) : spl c l = l.take i :: spl c (l.drop (i + 1)) := by
  obtain ⟨hlt, he⟩ := List.getElem?_eq_some_iff.1 hi
  have e : l = l.take i ++ c :: l.drop (i + 1) := by
    rw [← he, ← List.drop_eq_getElem_cons hlt, List.take_append_drop]
  have hn : c ∉ l.take i := by
    intro hc
    obtain ⟨k, hk, hkc⟩ := List.getElem_of_mem hc
    have hk2 : k < i := by simp at hk; omega
    refine hno k hk2 ?_
    rw [List.getElem_take] at hkc
    rw [List.getElem?_eq_getElem (by omega), hkc]
  conv => lhs; rw [e]
  exact spl_app _ hn
theorem idx_one (l : List UInt8) (c : UInt8) : indexB ⟨l.toArray⟩ ⟨#[c]⟩ = indexByte l c := index_one l c
theorem splitB_spl (c : UInt8) : ∀ (k : Nat) (l : List UInt8), countB ⟨l.toArray⟩ ⟨#[c]⟩ = k → splitB ⟨#[c]⟩ 0 k ⟨l.toArray⟩ = (spl c l).map fun a => ⟨a.toArray⟩ := by
  intro k
  induction k with
  | zero =>
    intro l hl
    rcases indexB_cases ⟨l.toArray⟩ ⟨#[c]⟩ with h | ⟨i, h, _⟩
    · rw [splitB_miss _ _ _ _ h]
      rw [idx_one] at h
      have hn : c ∉ l := by
        intro hc
        obtain ⟨j, hj, e⟩ := List.getElem_of_mem hc
        exact indexByte_none h j (by rw [List.getElem?_eq_getElem hj, e])
      rw [spl_none hn]; rfl
    · rw [countB_hit _ _ i (show 1 ≤ (⟨#[c]⟩ : ByteArray).size from Nat.le_refl 1) h] at hl; omega
  | succ k ih =>
    intro l hl
    rcases indexB_cases ⟨l.toArray⟩ ⟨#[c]⟩ with h | ⟨i, h, _⟩
    · rw [countB_miss _ _ h] at hl; omega
    · rw [countB_hit _ _ i (show 1 ≤ (⟨#[c]⟩ : ByteArray).size from Nat.le_refl 1) h] at hl
      rw [splitB_hit _ _ _ _ _ h]
      rw [idx_one] at h
      obtain ⟨h1, h2⟩ := indexByte_some h
      have e1 : (⟨#[c]⟩ : ByteArray).size = 1 := rfl
      have e2 : (⟨l.toArray⟩ : ByteArray).extract (i + 1) (⟨l.toArray⟩ : ByteArray).size = ⟨(l.drop (i + 1)).toArray⟩ := by rw [ba_size, ba_extract, List.take_length]
      have e3 : (⟨l.toArray⟩ : ByteArray).extract 0 (i + 0) = ⟨(l.take i).toArray⟩ := by rw [ba_extract]; simp
      rw [e1, e2] at hl
      rw [e1, e2, e3, ih _ (by omega), spl_take h1 h2]
      simp
theorem spl_count (c : UInt8) : ∀ (k : Nat) (l : List UInt8), countB ⟨l.toArray⟩ ⟨#[c]⟩ = k → (spl c l).length = k + 1 := by
  intro k
  induction k with
  | zero =>
    intro l hl
    rcases indexB_cases ⟨l.toArray⟩ ⟨#[c]⟩ with h | ⟨i, h, _⟩
    · rw [idx_one] at h
      have hn : c ∉ l := by
        intro hc
        obtain ⟨j, hj, e⟩ := List.getElem_of_mem hc
        exact indexByte_none h j (by rw [List.getElem?_eq_getElem hj, e])
      rw [spl_none hn]; rfl
    · rw [countB_hit _ _ i (show 1 ≤ (⟨#[c]⟩ : ByteArray).size from Nat.le_refl 1) h] at hl; omega
  | succ k ih =>
    intro l hl
    rcases indexB_cases ⟨l.toArray⟩ ⟨#[c]⟩ with h | ⟨i, h, _⟩
    · rw [countB_miss _ _ h] at hl; omega
    · rw [countB_hit _ _ i (show 1 ≤ (⟨#[c]⟩ : ByteArray).size from Nat.le_refl 1) h] at hl
      rw [idx_one] at h
      obtain ⟨h1, h2⟩ := indexByte_some h
      have e1 : (⟨#[c]⟩ : ByteArray).size = 1 := rfl
      have e2 : (⟨l.toArray⟩ : ByteArray).extract (i + 1) (⟨l.toArray⟩ : ByteArray).size = ⟨(l.drop (i + 1)).toArray⟩ := by rw [ba_size, ba_extract, List.take_length]
      rw [e1, e2] at hl
      rw [spl_take h1 h2, List.length_cons, ih _ (by omega)]
end Go.Vc


set_option linter.unusedVariables false
set_option linter.unusedSimpArgs false
set_option linter.unnecessarySimpa false
namespace Go.Vc
open Go.Proofs
set_option maxRecDepth 100000
def isIn (a b c : Int) : Bool := decide (a ≥ b) && decide (a ≤ c)
theorem range_all_succ (p : Nat → Bool) (i : Nat) : (List.range (i + 1)).all p = ((List.range i).all p && p i) := by
  rw [List.range_succ, List.all_append]; simp
theorem range_all_no {p : Nat → Bool} {i n : Nat} (h : i < n) (hp : p i = false) : (List.range n).all p = false := by
  rw [List.all_eq_false]; exact ⟨i, List.mem_range.2 h, by simp [hp]⟩
def flt (p : Nat → Bool) (i : Nat) : List Int := List.map (fun j : Nat => (j : Int)) ((List.range i).filter p)
theorem flt_zero (p : Nat → Bool) : flt p 0 = [] := rfl
theorem flt_succ (p : Nat → Bool) (i : Nat) : flt p (i + 1) = if p i then flt p i ++ [(i : Int)] else flt p i := by
  simp only [flt, List.range_succ, List.filter_append, List.map_append]
  rw [List.filter_cons]
  split <;> simp
theorem flt_len (p : Nat → Bool) (i : Nat) : (flt p i).length ≤ i := by
  rw [flt, List.length_map]
  exact Nat.le_trans (List.length_filter_le _ _) (by simp)
theorem flt_mem {p : Nat → Bool} {i : Nat} {x : Int} (h : x ∈ flt p i) : ∃ j : Nat, j < i ∧ x = j ∧ p j = true := by
  simp only [flt, List.mem_map, List.mem_filter, List.mem_range] at h
  obtain ⟨j, ⟨h1, h2⟩, h3⟩ := h
  exact ⟨j, h1, h3.symm, h2⟩
attribute [irreducible] flt
theorem pred_toNat {i : Nat} (h : 0 < i) : ((i : Int) - 1).toNat = i - 1 := by omega
theorem c_l01In (a b c : Int) : Fn Tryz.prog 95 [eI a, eI b, eI c] true (· = eB (isIn a b c)) := by
  refine Fn.of_vcN 15 [.tmp 6] Tryz.func95 rfl rfl rfl rfl rfl (of_decide_eq_true rfl) ?_
  simp -dsimp -implicitDefEqProofs only [go_sem, ↓reduceIte]
  repeat' (refine Br.intro (fun _ => ?_) (fun _ => ?_) <;> try simp -dsimp -implicitDefEqProofs only [go_sem, ↓reduceIte, *])
  all_goals first
    | (simp_all [isIn]; done)
    | (simp_all [isIn]; omega)
theorem c_within (a b c : Int) : Fn Tryz.prog 94 [eI a, eI b, eI c] true (· = eB (isIn a b c)) := by
  refine Fn.of_vcN 15 [.tmp 6] Tryz.func94 rfl rfl rfl rfl rfl (of_decide_eq_true rfl) ?_
  simp -dsimp -implicitDefEqProofs only [go_sem, ↓reduceIte]
  repeat' (refine Br.intro (fun _ => ?_) (fun _ => ?_) <;> try simp -dsimp -implicitDefEqProofs only [go_sem, ↓reduceIte, *])
  all_goals first
    | (simp_all [isIn]; done)
    | (simp_all [isIn]; omega)
theorem c_allWithin (xs : List Int) (a b : Int) (h : xs.length ≤ 9223372036854775807) : Fn Tryz.prog 113 [eIs xs, eI a, eI b] true (· = eB (xs.all fun x => isIn x a b)) := by
  refine Fn.of_vcN 21 [.tmp 6] Tryz.func113 rfl rfl rfl rfl rfl (of_decide_eq_true rfl) ?_
  simp -dsimp -implicitDefEqProofs only [go_sem, ↓reduceIte]
  refine Later.up [1, 2, 9, 10] [18] [] xs.length (fun i => (xs.take i).all fun x => isIn x a b) (fun i => [(11, eI i)]) (fun _ => []) (by simp) ?_ rfl (fun i hi hI => ?_) (fun hI => ?_)
  · simp -dsimp -implicitDefEqProofs only [go_sem, ↓reduceIte]
  · simp -dsimp -implicitDefEqProofs only [pick_nil, pick_cons, look_nil, look_cons, dropB_nil, dropB_cons, inD_nil, inD_cons, inE_nil, inE_cons, or_t_l, or_f_l, Nat.reduceBEq, Nat.reduceDiv, Nat.reduceAdd, beq_self_eq_true, uq0, uq1, ↓reduceIte, Nat.reduceEqDiff, uq2, uq3]
    have no : isIn xs[i] a b = false → (xs.all fun x => isIn x a b) = false := fun h => all_no (p := fun x => isIn x a b) hi h
    have yes : isIn xs[i] a b = true → ((xs.take (i + 1)).all fun x => isIn x a b) = true := fun h => by rw [all_take _ _ _ hi, hI, h]; rfl
    simp -dsimp -implicitDefEqProofs only [go_sem, ↓reduceIte, lt_len hi, get_some hi]
    repeat' first
      | (refine Br.intro (fun _ => ?_) (fun _ => ?_) <;> try simp -dsimp -implicitDefEqProofs only [go_sem, ↓reduceIte, *])
      | (with_reducible refine And.intro ?_ ?_)
      | (refine sCallT_one (c_within _ _ _) ?_; try simp -dsimp -implicitDefEqProofs only [go_sem, ↓reduceIte, *])
    all_goals first | omega | (refine ⟨?_, ?_⟩ <;> omega) | (simp; done) | (rw [no]; clear no yes; simp_all []; done) | (rw [no]; clear no yes; simp_all []; omega) | (refine yes ?_; clear no yes; simp_all []; done) | (refine yes ?_; clear no yes; simp_all []; omega) | (simp_all [I64]; done) | (simp_all [I64]; omega) | trace_state
  · simp -dsimp -implicitDefEqProofs only [pick_nil, pick_cons, look_nil, look_cons, dropB_nil, dropB_cons, inD_nil, inD_cons, inE_nil, inE_cons, or_t_l, or_f_l, Nat.reduceBEq, Nat.reduceDiv, Nat.reduceAdd, beq_self_eq_true, uq0, uq1, ↓reduceIte, Nat.reduceEqDiff, uq2, uq3]
    simp -dsimp -implicitDefEqProofs only [go_sem, ↓reduceIte, nlt_len]
    rw [List.take_length] at hI
    rw [hI]
theorem mixed : Tryz.prog.follows .mixedOrders = true := by kernel_rfl
theorem c_l01Own (xs : List Int) (h : xs.length ≤ 1048576) : Fn Tryz.prog 102 [eIs xs] true (· = eIs xs) := by
  refine Fn.of_vcN 6 [.tmp 2] Tryz.func102 rfl rfl rfl rfl rfl (of_decide_eq_true rfl) ?_
  simp -dsimp -implicitDefEqProofs only [go_sem, ↓reduceIte]
  repeat' (with_reducible refine And.intro ?_ ?_)
  all_goals first | omega | (refine ⟨?_, ?_⟩ <;> omega) | (simp; done) | (simp; omega) | trace_state
end Go.Vc


set_option linter.unusedVariables false
set_option linter.unusedSimpArgs false
set_option linter.unnecessarySimpa false
namespace Go.Vc
open Go.Proofs
set_option maxRecDepth 100000
abbrev eIss (xs : List (List Int)) : AV := .arr ⟨1, false⟩ (xs.map eIs)
abbrev eLk (l : List (List Int)) : AV := .agg [eIss l]
structure MkM where
  chambers : Int
  depths : Int
  step : Int
  same : Int
  least : Int
  deriving DecidableEq
abbrev eMk (m : MkM) : AV := .agg [eI m.chambers, eI m.depths, eI m.step, eI m.same, eI m.least]
end Go.Vc


set_option linter.unusedVariables false
set_option linter.unusedSimpArgs false
set_option linter.unnecessarySimpa false
namespace Go.Vc
open Go.Proofs
set_option maxRecDepth 100000
def isMk (m : MkM) : Bool := isIn m.chambers 2 6 && isIn m.depths 2 8 && isIn m.step 1 (m.depths - 1) && isIn m.same 1 m.chambers && isIn m.least 1 (if m.depths < m.chambers then m.depths else m.chambers)
theorem isMk_num {m : MkM} (h : isMk m = true) : (2 ≤ m.chambers ∧ m.chambers ≤ 6) ∧ 2 ≤ m.depths ∧ m.depths ≤ 8 := by
  simp [isMk, isIn] at h; omega
theorem c_sIsMaker (m : MkM) : Fn Tryz.prog 83 [eMk m] true (· = eB (isMk m)) := by
  refine Fn.of_vcN 36 [.tmp 2] Tryz.func83 rfl rfl rfl rfl rfl (of_decide_eq_true rfl) ?_
  simp -dsimp -implicitDefEqProofs only [go_sem, ↓reduceIte]
  repeat' first
    | (refine Br.intro (fun _ => ?_) (fun _ => ?_) <;> try simp -dsimp -implicitDefEqProofs only [go_sem, ↓reduceIte, *])
    | (with_reducible refine And.intro ?_ ?_)
    | (refine sCallT_one (c_l01In _ _ _) ?_; try simp -dsimp -implicitDefEqProofs only [go_sem, ↓reduceIte, *])
  all_goals first
    | (simp_all [isMk, isIn, I64]; done)
    | (simp_all [isMk, isIn, I64]; omega)
    | trace_state
theorem c_iIsMaker (m : MkM) : Fn Tryz.prog 80 [eMk m] true (· = eB (isMk m)) := by
  refine Fn.of_vcN 36 [.tmp 2] Tryz.func80 rfl rfl rfl rfl rfl (of_decide_eq_true rfl) ?_
  simp -dsimp -implicitDefEqProofs only [go_sem, ↓reduceIte]
  repeat' first
    | (refine Br.intro (fun _ => ?_) (fun _ => ?_) <;> try simp -dsimp -implicitDefEqProofs only [go_sem, ↓reduceIte, *])
    | (with_reducible refine And.intro ?_ ?_)
    | (refine sCallT_one (c_within _ _ _) ?_; try simp -dsimp -implicitDefEqProofs only [go_sem, ↓reduceIte, *])
  all_goals first
    | (simp_all [isMk, isIn, I64]; done)
    | (simp_all [isMk, isIn, I64]; omega)
    | trace_state
def riseAt (xs : List Int) (n : Int) (i : Nat) : Bool := decide (0 ≤ xs.getD i 0) && decide (xs.getD i 0 < n) && (i == 0 || decide (xs.getD (i - 1) 0 < xs.getD i 0))
def rises (xs : List Int) (n : Int) : Bool := (List.range xs.length).all (riseAt xs n)
theorem c_l01Rises (xs : List Int) (n : Int) (h : xs.length ≤ 9223372036854775807) : Fn Tryz.prog 275 [eIs xs, eI n] true (· = eB (rises xs n)) := by
  refine Fn.of_vcN 41 [.tmp 4] Tryz.func275 rfl rfl rfl rfl rfl (of_decide_eq_true rfl) ?_
  simp -dsimp -implicitDefEqProofs only [go_sem, ↓reduceIte]
  refine Later.up [0, 1] [8] [] xs.length (fun i => (List.range i).all (riseAt xs n)) (fun i => [(5, eI i)]) (fun _ => []) (by simp) ?_ rfl (fun i hi hI => ?_) (fun hI => ?_)
  · simp -dsimp -implicitDefEqProofs only [go_sem, ↓reduceIte]
  · have no : riseAt xs n i = false → rises xs n = false := range_all_no hi
    have yes : riseAt xs n i = true → (List.range (i + 1)).all (riseAt xs n) = true := fun h => by rw [range_all_succ, hI, h]; rfl
    have hi' : i - 1 < xs.length := by omega
    have gi := get_some hi
    have li := lt_len hi
    by_cases hi0 : 0 < i
    rotate_left
    · have g3 : decide ((i : Int) > 0) = false := by simp; omega
      simp -dsimp -implicitDefEqProofs only [pick_nil, pick_cons, look_nil, look_cons, dropB_nil, dropB_cons, inD_nil, inD_cons, inE_nil, inE_cons, or_t_l, or_f_l, Nat.reduceBEq, Nat.reduceDiv, Nat.reduceAdd, beq_self_eq_true, uq0, uq1, ↓reduceIte, Nat.reduceEqDiff, uq2, uq3]
      simp -dsimp -implicitDefEqProofs only [go_sem, ↓reduceIte, lt_len hi, get_some hi, g3]
      repeat' first
        | (refine Br.intro (fun _ => ?_) (fun _ => ?_) <;> try simp -dsimp -implicitDefEqProofs only [go_sem, ↓reduceIte, *])
        | (with_reducible refine And.intro ?_ ?_)
        | (refine Later.draw mixed rfl ?_; simp -dsimp -implicitDefEqProofs only [go_sem, ↓reduceIte, lt_len hi, get_some hi, g3])
      all_goals first
        | omega
        | (refine ⟨?_, ?_⟩ <;> omega)
        | (simp; done)
        | rfl
        | (rw [no]; clear no yes; simp_all [riseAt]; done) | (rw [no]; clear no yes; simp_all [riseAt]; omega) | (refine yes ?_; clear no yes; simp_all [riseAt]; done) | (refine yes ?_; clear no yes; simp_all [riseAt]; omega)
        | (rw [← List.range_succ]; refine yes ?_; clear no yes; simp_all [riseAt]; done)
        | (rw [← List.range_succ]; refine yes ?_; clear no yes; simp_all [riseAt]; omega)
        | (have e0 : i = 0 := by omega
           clear hi0; subst e0; first | (rw [no]; clear no yes; simp_all [riseAt]; done) | (rw [no]; clear no yes; simp_all [riseAt]; omega) | (refine yes ?_; clear no yes; simp_all [riseAt]; done) | (refine yes ?_; clear no yes; simp_all [riseAt]; omega))
        | trace_state
    · have g2 : xs[((i : Int) - 1).toNat]? = some xs[i - 1] := by rw [pred_toNat hi0]; exact get_some hi'
      have g3 : decide ((i : Int) > 0) = true := by simp; omega
      simp -dsimp -implicitDefEqProofs only [pick_nil, pick_cons, look_nil, look_cons, dropB_nil, dropB_cons, inD_nil, inD_cons, inE_nil, inE_cons, or_t_l, or_f_l, Nat.reduceBEq, Nat.reduceDiv, Nat.reduceAdd, beq_self_eq_true, uq0, uq1, ↓reduceIte, Nat.reduceEqDiff, uq2, uq3]
      simp -dsimp -implicitDefEqProofs only [go_sem, ↓reduceIte, lt_len hi, get_some hi, g2, g3]
      repeat' first
        | (refine Br.intro (fun _ => ?_) (fun _ => ?_) <;> try simp -dsimp -implicitDefEqProofs only [go_sem, ↓reduceIte, *])
        | (with_reducible refine And.intro ?_ ?_)
        | (refine Later.draw mixed rfl ?_; simp -dsimp -implicitDefEqProofs only [go_sem, ↓reduceIte, lt_len hi, get_some hi, g2, g3])
      all_goals first
        | omega
        | (refine ⟨?_, ?_⟩ <;> omega)
        | (simp; done)
        | rfl
        | (rw [no]; clear no yes; simp_all [riseAt]; done) | (rw [no]; clear no yes; simp_all [riseAt]; omega) | (refine yes ?_; clear no yes; simp_all [riseAt]; done) | (refine yes ?_; clear no yes; simp_all [riseAt]; omega)
        | (rw [← List.range_succ]; refine yes ?_; clear no yes; simp_all [riseAt]; done)
        | (rw [← List.range_succ]; refine yes ?_; clear no yes; simp_all [riseAt]; omega)
        | (have e0 : i = 0 := by omega
           clear hi0; subst e0; first | (rw [no]; clear no yes; simp_all [riseAt]; done) | (rw [no]; clear no yes; simp_all [riseAt]; omega) | (refine yes ?_; clear no yes; simp_all [riseAt]; done) | (refine yes ?_; clear no yes; simp_all [riseAt]; omega))
        | trace_state
  · simp -dsimp -implicitDefEqProofs only [pick_nil, pick_cons, look_nil, look_cons, dropB_nil, dropB_cons, inD_nil, inD_cons, inE_nil, inE_cons, or_t_l, or_f_l, Nat.reduceBEq, Nat.reduceDiv, Nat.reduceAdd, beq_self_eq_true, uq0, uq1, ↓reduceIte, Nat.reduceEqDiff, uq2, uq3]
    simp -dsimp -implicitDefEqProofs only [go_sem, ↓reduceIte, nlt_len]
    rw [rises, hI]
def has (xs : List Int) (x : Int) : Bool := !(xs.all fun y => !(y == x))
theorem c_l01Has (xs : List Int) (x : Int) (h : xs.length ≤ 1048576) : Fn Tryz.prog 194 [eIs xs, eI x] true (· = eB (has xs x)) := by
  refine Fn.of_vcN 18 [.tmp 4] Tryz.func194 rfl rfl rfl rfl rfl (of_decide_eq_true rfl) ?_
  simp -dsimp -implicitDefEqProofs only [go_sem, ↓reduceIte]
  refine Later.up [0, 1] [8] [] xs.length (fun i => (xs.take i).all (fun y => !(y == x))) (fun i => [(5, eI i)]) (fun _ => []) (by simp) ?_ rfl (fun i hi hI => ?_) (fun hI => ?_)
  · simp -dsimp -implicitDefEqProofs only [go_sem, ↓reduceIte]
  · simp -dsimp -implicitDefEqProofs only [pick_nil, pick_cons, look_nil, look_cons, dropB_nil, dropB_cons, inD_nil, inD_cons, inE_nil, inE_cons, or_t_l, or_f_l, Nat.reduceBEq, Nat.reduceDiv, Nat.reduceAdd, beq_self_eq_true, uq0, uq1, ↓reduceIte, Nat.reduceEqDiff, uq2, uq3]
    have gi := get_some hi
    have li := lt_len hi
    have no : (!(xs[i] == x)) = false → (xs.all fun y => !(y == x)) = false := fun h => by simp [has, all_no (p := fun y => !(y == x)) hi h]
    have yes : (!(xs[i] == x)) = true → ((xs.take (i + 1)).all (fun y => !(y == x))) = true := fun h => by rw [all_take _ _ _ hi, hI]; simpa using h
    simp -dsimp -implicitDefEqProofs only [go_sem, ↓reduceIte, li, gi]
    repeat' first
      | (refine Br.intro (fun _ => ?_) (fun _ => ?_) <;> try simp -dsimp -implicitDefEqProofs only [go_sem, ↓reduceIte, *])
      | (with_reducible refine And.intro ?_ ?_)
      | (refine Later.draw mixed rfl ?_; try simp -dsimp -implicitDefEqProofs only [go_sem, ↓reduceIte, *])
    all_goals first
      | omega
      | (refine ⟨?_, ?_⟩ <;> omega)
      | (simp; done)
      | rfl
      | (rw [has, no (by rw [‹(xs[i] == x) = true›]; rfl)]; rfl) | (refine yes ?_; clear no yes; simp_all; done)
      | trace_state
  · simp -dsimp -implicitDefEqProofs only [pick_nil, pick_cons, look_nil, look_cons, dropB_nil, dropB_cons, inD_nil, inD_cons, inE_nil, inE_cons, or_t_l, or_f_l, Nat.reduceBEq, Nat.reduceDiv, Nat.reduceAdd, beq_self_eq_true, uq0, uq1, ↓reduceIte, Nat.reduceEqDiff, uq2, uq3]
    simp -dsimp -implicitDefEqProofs only [go_sem, ↓reduceIte, nlt_len]
    rw [List.take_length] at hI
    first
      | (simp_all [has]; done)
      | trace_state
end Go.Vc


set_option linter.unusedVariables false
set_option linter.unusedSimpArgs false
set_option linter.unnecessarySimpa false
namespace Go.Vc
open Go.Proofs
set_option maxRecDepth 100000
abbrev eSy (m : MkM) (t : List (List Int)) : AV := .agg [eI m.chambers, eI m.depths, eI m.step, eI m.same, eI m.least, eIss t]
def rowOk (n : Nat) (r : List Int) : Bool := (r.length == n) && decide (1 ≤ r.length) && decide (r.length ≤ 12) && r.all fun x => isIn x 0 1
def isTb (t : List (List Int)) : Bool := decide (1 ≤ t.length) && decide (t.length ≤ 10) && t.all (rowOk (t.getD 0 []).length)
theorem isTb_no {t : List (List Int)} {i : Nat} (hi : i < t.length) (h : rowOk (t.getD 0 []).length t[i] = false) : isTb t = false := by
  rw [isTb, all_no hi h]; simp
theorem isTb_num {t : List (List Int)} (h : isTb t = true) : 1 ≤ t.length ∧ t.length ≤ 10 ∧ 1 ≤ (t.getD 0 []).length ∧ (t.getD 0 []).length ≤ 12 ∧ ∀ i (hi : i < t.length), t[i].length = (t.getD 0 []).length := by
  simp only [isTb, Bool.and_eq_true, decide_eq_true_eq] at h
  have hr : ∀ i (hi : i < t.length), rowOk (t.getD 0 []).length t[i] = true := fun i hi => List.all_eq_true.1 h.2 _ (List.getElem_mem hi)
  have h0 := hr 0 (by omega)
  have e : t.getD 0 [] = t[0]'(by omega) := by simp [List.getD_eq_getElem?_getD, show 0 < t.length by omega]
  simp only [rowOk, Bool.and_eq_true, decide_eq_true_eq, beq_iff_eq] at h0 hr
  rw [← e] at h0
  exact ⟨h.1.1, h.1.2, h0.1.1.2, h0.1.2, fun i hi => (hr i hi).1.1.1⟩
theorem c_iIsTable (t : List (List Int)) (h : t.length ≤ 1048576) (h2 : ∀ x ∈ t, x.length ≤ 1048576) : Fn Tryz.prog 81 [eIss t] true (· = eB (isTb t)) := by
  refine Fn.of_vcN 42 [.tmp 2] Tryz.func81 rfl rfl rfl rfl rfl (of_decide_eq_true rfl) ?_
  simp -dsimp -implicitDefEqProofs only [go_sem, ↓reduceIte]
  refine Later.up [0, 5, 6] [12, 16, 20, 25, 30] [] t.length (fun i => (t.take i).all (rowOk (t.getD 0 []).length)) (fun i => [(7, eI i)]) (fun _ => []) (by simp) ?_ rfl (fun i hi hI => ?_) (fun hI => ?_)
  · simp -dsimp -implicitDefEqProofs only [go_sem, ↓reduceIte]
  · have h00 : 0 < t.length := by omega
    have g0 := get_some h00
    have gd : t.getD 0 [] = t[0] := by simp [List.getD_eq_getElem?_getD, h00]
    have hx := h2 t[i] (List.getElem_mem hi)
    have hx0 := h2 t[0] (List.getElem_mem h00)
    have gi := get_some hi
    have li := lt_len hi
    have no : rowOk t[0].length t[i] = false → isTb t = false := fun h => isTb_no hi (by rw [gd]; exact h)
    have yes : rowOk t[0].length t[i] = true → (t.take (i + 1)).all (rowOk (t.getD 0 []).length) = true := fun h => by rw [all_take _ _ _ hi, hI, gd, h]; rfl
    clear gd
    simp -dsimp -implicitDefEqProofs only [pick_nil, pick_cons, look_nil, look_cons, dropB_nil, dropB_cons, inD_nil, inD_cons, inE_nil, inE_cons, or_t_l, or_f_l, Nat.reduceBEq, Nat.reduceDiv, Nat.reduceAdd, beq_self_eq_true, uq0, uq1, ↓reduceIte, Nat.reduceEqDiff, uq2, uq3]
    simp -dsimp -implicitDefEqProofs only [go_sem, ↓reduceIte, li, gi, g0]
    repeat' first
      | (refine Br.intro (fun _ => ?_) (fun _ => ?_) <;> try simp -dsimp -implicitDefEqProofs only [go_sem, ↓reduceIte, *])
      | (with_reducible refine And.intro ?_ ?_)
      | (refine sCallT_one (c_allWithin t[i] 0 1 (by omega)) ?_; try simp -dsimp -implicitDefEqProofs only [go_sem, ↓reduceIte, *])
    all_goals first
      | omega
      | (refine ⟨?_, ?_⟩ <;> omega)
      | rfl
      | (simp; done)
      | (rw [no]; clear no yes; simp_all [rowOk]; done) | (rw [no]; clear no yes; simp_all [rowOk]; omega) | (refine yes ?_; clear no yes; simp_all [rowOk]; done) | (refine yes ?_; clear no yes; simp_all [rowOk]; omega)
      | trace_state
  · simp -dsimp -implicitDefEqProofs only [pick_nil, pick_cons, look_nil, look_cons, dropB_nil, dropB_cons, inD_nil, inD_cons, inE_nil, inE_cons, or_t_l, or_f_l, Nat.reduceBEq, Nat.reduceDiv, Nat.reduceAdd, beq_self_eq_true, uq0, uq1, ↓reduceIte, Nat.reduceEqDiff, uq2, uq3]
    simp -dsimp -implicitDefEqProofs only [go_sem, ↓reduceIte, nlt_len]
    rw [List.take_length] at hI
    repeat' first
      | (refine Br.intro (fun _ => ?_) (fun _ => ?_) <;> try simp -dsimp -implicitDefEqProofs only [go_sem, ↓reduceIte, *])
      | (with_reducible refine And.intro ?_ ?_)
    all_goals first
      | omega
      | (simp_all [isTb]; done)
      | (rename_i hx
         have h3 : 1 ≤ t.length := by have := of_decide_eq_true hx; omega
         have h4 : decide ((t.length : Int) ≤ 10) = decide (t.length ≤ 10) := by rw [decide_eq_decide]; omega
         rw [isTb, hI, decide_eq_true h3, h4, Bool.true_and, Bool.and_true])
      | (rename_i hx
         have h3 : ¬ 1 ≤ t.length := by have := of_decide_eq_false hx; omega
         rw [isTb, decide_eq_false h3]; rfl)
      | trace_state
theorem c_sIsTable (t : List (List Int)) (h : t.length ≤ 1048576) (h2 : ∀ x ∈ t, x.length ≤ 1048576) : Fn Tryz.prog 85 [eIss t] true (· = eB (isTb t)) := by
  refine Fn.of_vcN 52 [.tmp 2] Tryz.func85 rfl rfl rfl rfl rfl (of_decide_eq_true rfl) ?_
  simp -dsimp -implicitDefEqProofs only [go_sem, ↓reduceIte]
  repeat' first
    | (refine Br.intro (fun _ => ?_) (fun _ => ?_) <;> try simp -dsimp -implicitDefEqProofs only [go_sem, ↓reduceIte, *])
    | (with_reducible refine And.intro ?_ ?_)
    | (refine sCallT_one (c_l01In _ _ _) ?_; try simp -dsimp -implicitDefEqProofs only [go_sem, ↓reduceIte, *])
  all_goals try (first | omega | (simp_all [isTb, isIn]; omega))
  rename_i hl
  refine Later.up [0] [11, 19, 23, 30, 31, 39, 50] [] t.length (fun i => (t.take i).all (rowOk (t.getD 0 []).length)) (fun i => [(3, eI i)]) (fun _ => []) (by simp) ?_ rfl (fun i hi hI => ?_) (fun hI => ?_)
  · simp -dsimp -implicitDefEqProofs only [go_sem, ↓reduceIte]
  · have h00 : 0 < t.length := by omega
    have g0 := get_some h00
    have gd : t.getD 0 [] = t[0] := by simp [List.getD_eq_getElem?_getD, h00]
    have hx := h2 t[i] (List.getElem_mem hi)
    have hx0 := h2 t[0] (List.getElem_mem h00)
    have gi := get_some hi
    have li := lt_len hi
    have no : rowOk t[0].length t[i] = false → isTb t = false := fun h => isTb_no hi (by rw [gd]; exact h)
    have yes : rowOk t[0].length t[i] = true → (t.take (i + 1)).all (rowOk (t.getD 0 []).length) = true := fun h => by rw [all_take _ _ _ hi, hI, gd, h]; rfl
    clear gd hI
    simp -dsimp -implicitDefEqProofs only [pick_nil, pick_cons, look_nil, look_cons, dropB_nil, dropB_cons, inD_nil, inD_cons, inE_nil, inE_cons, or_t_l, or_f_l, Nat.reduceBEq, Nat.reduceDiv, Nat.reduceAdd, beq_self_eq_true, uq0, uq1, ↓reduceIte, Nat.reduceEqDiff, uq2, uq3]
    simp -dsimp -implicitDefEqProofs only [go_sem, ↓reduceIte, li, gi, g0]
    repeat' first
      | (refine Br.intro (fun _ => ?_) (fun _ => ?_) <;> try simp -dsimp -implicitDefEqProofs only [go_sem, ↓reduceIte, *])
      | (with_reducible refine And.intro ?_ ?_)
      | (refine Later.draw mixed rfl ?_; try simp -dsimp -implicitDefEqProofs only [go_sem, ↓reduceIte, *])
      | (refine sCallT_one (c_l01In _ _ _) ?_; try simp -dsimp -implicitDefEqProofs only [go_sem, ↓reduceIte, *])
      | (refine sCallX_one (c_l01In _ _ _) ?_; try simp -dsimp -implicitDefEqProofs only [go_sem, ↓reduceIte, *])
    all_goals try (first | omega | (refine ⟨?_, ?_⟩ <;> omega) | rfl | (simp; done) | (rw [no]; clear no yes; simp_all [rowOk, isIn]; done) | (rw [no]; clear no yes; simp_all [rowOk, isIn]; omega) | (refine yes ?_; clear no yes; simp_all [rowOk, isIn]; done) | (refine yes ?_; clear no yes; simp_all [rowOk, isIn]; omega))
    refine Later.up [0, 3] [39, 50] [] t[i].length (fun j => (t[i].take j).all (fun x => isIn x 0 1)) (fun j => [(4, eI j)]) (fun _ => []) (by simp) ?_ rfl (fun j hj hJ => ?_) (fun hJ => ?_)
    · simp -dsimp -implicitDefEqProofs only [go_sem, ↓reduceIte]
    · have gj := get_some hj
      have lj := lt_len hj
      have no1 : isIn t[i][j] 0 1 = false → isTb t = false := fun h => no (by rw [rowOk, all_no (p := fun x => isIn x 0 1) hj h]; simp)
      have yes1 : isIn t[i][j] 0 1 = true → (t[i].take (j + 1)).all (fun x => isIn x 0 1) = true := fun h => by rw [all_take _ _ _ hj, hJ, h]; rfl
      clear no yes
      simp -dsimp -implicitDefEqProofs only [pick_nil, pick_cons, look_nil, look_cons, dropB_nil, dropB_cons, inD_nil, inD_cons, inE_nil, inE_cons, or_t_l, or_f_l, Nat.reduceBEq, Nat.reduceDiv, Nat.reduceAdd, beq_self_eq_true, uq0, uq1, ↓reduceIte, Nat.reduceEqDiff, uq2, uq3]
      simp -dsimp -implicitDefEqProofs only [go_sem, ↓reduceIte, li, gi, gj, lj]
      repeat' first
        | (refine Br.intro (fun _ => ?_) (fun _ => ?_) <;> try simp -dsimp -implicitDefEqProofs only [go_sem, ↓reduceIte, *])
        | (with_reducible refine And.intro ?_ ?_)
        | (refine sCallT_one (c_l01In _ _ _) ?_; try simp -dsimp -implicitDefEqProofs only [go_sem, ↓reduceIte, *])
      all_goals first
        | omega
        | (refine ⟨?_, ?_⟩ <;> omega)
        | rfl
        | (simp; done)
        | (rw [no1]; clear no1 yes1; simp_all; done)
        | (refine yes1 ?_; clear no1 yes1; simp_all; done)
        | trace_state
    · simp -dsimp -implicitDefEqProofs only [pick_nil, pick_cons, look_nil, look_cons, dropB_nil, dropB_cons, inD_nil, inD_cons, inE_nil, inE_cons, or_t_l, or_f_l, Nat.reduceBEq, Nat.reduceDiv, Nat.reduceAdd, beq_self_eq_true, uq0, uq1, ↓reduceIte, Nat.reduceEqDiff, uq2, uq3]
      rw [List.take_length] at hJ
      simp -dsimp -implicitDefEqProofs only [go_sem, ↓reduceIte, li, gi, nlt_len]
      repeat' first
        | (refine Br.intro (fun _ => ?_) (fun _ => ?_) <;> try simp -dsimp -implicitDefEqProofs only [go_sem, ↓reduceIte, *])
        | (with_reducible refine And.intro ?_ ?_)
      all_goals first
        | omega
        | (refine ⟨?_, ?_⟩ <;> omega)
        | rfl
        | (simp; done)
        | (refine yes ?_; clear no yes; simp_all [rowOk, isIn]; done)
        | (refine yes ?_; clear no yes; simp_all [rowOk, isIn]; omega)
        | trace_state
  · simp -dsimp -implicitDefEqProofs only [pick_nil, pick_cons, look_nil, look_cons, dropB_nil, dropB_cons, inD_nil, inD_cons, inE_nil, inE_cons, or_t_l, or_f_l, Nat.reduceBEq, Nat.reduceDiv, Nat.reduceAdd, beq_self_eq_true, uq0, uq1, ↓reduceIte, Nat.reduceEqDiff, uq2, uq3]
    simp -dsimp -implicitDefEqProofs only [go_sem, ↓reduceIte, nlt_len]
    rw [List.take_length] at hI
    first
      | (simp_all [isTb, isIn]; done)
      | (simp_all [isTb, isIn]; omega)
      | trace_state
def doorOpen (t : List (List Int)) (k : Nat) : Bool := t.any fun r => r.getD k 0 == 1
def doorsOpen (t : List (List Int)) : Bool := (List.range (t.getD 0 []).length).all (doorOpen t)
def isSy (m : MkM) (t : List (List Int)) : Bool := isMk m && isTb t && doorsOpen t
theorem isSy_num {m : MkM} {t : List (List Int)} (h : isSy m t = true) : 1 ≤ t.length ∧ t.length ≤ 10 ∧ 1 ≤ (t.getD 0 []).length ∧ (t.getD 0 []).length ≤ 12 ∧ ∀ i (hi : i < t.length), t[i].length = (t.getD 0 []).length := by
  simp only [isSy, Bool.and_eq_true] at h
  exact isTb_num h.1.2
theorem any_take {α : Type} (p : α → Bool) (xs : List α) (i : Nat) (h : i < xs.length) : (xs.take (i + 1)).any p = ((xs.take i).any p || p xs[i]) := by
  rw [List.take_succ_eq_append_getElem h, List.any_append]; simp
def rowsOn (t : List (List Int)) (k : Nat) : List Int := flt (fun i => (t.getD i []).getD k 0 == 1) t.length
theorem rowsOn_nil (t : List (List Int)) (k : Nat) : decide (((rowsOn t k).length : Int) = 0) = !doorOpen t k := by
  have key : ∀ n, n ≤ t.length → ((flt (fun i => (t.getD i []).getD k 0 == 1) n) = [] ↔ (t.take n).any (fun r => r.getD k 0 == 1) = false) := by
    intro n
    induction n with
    | zero => intro _; simp [flt_zero]
    | succ n ih =>
      intro hn
      have h1 := ih (by omega)
      have e : t.getD n [] = t[n] := by simp [List.getD_eq_getElem?_getD, show n < t.length by omega]
      rw [flt_succ, any_take _ _ _ (show n < t.length by omega), Bool.or_eq_false_iff, ← h1, e]
      cases hc : (t[n].getD k 0 == 1) <;> simp
  have h1 := key t.length (Nat.le_refl _)
  rw [List.take_length] at h1
  have h2 : (((rowsOn t k).length : Int) = 0) ↔ rowsOn t k = [] := by rw [← List.length_eq_zero_iff]; omega
  cases hd : doorOpen t k with
  | true =>
    rw [Bool.not_true]
    refine decide_eq_false fun e => ?_
    have := h1.1 (h2.1 e)
    rw [show doorOpen t k = t.any fun r => r.getD k 0 == 1 from rfl, this] at hd; cases hd
  | false =>
    rw [Bool.not_false]
    exact decide_eq_true (h2.2 (h1.2 hd))
theorem c_rowsFor (m : MkM) (t : List (List Int)) (k : Nat) (h : t.length ≤ 1048576) (hk : ∀ i (hi : i < t.length), k < t[i].length) : Fn Tryz.prog 91 [eSy m t, eI k] true (· = eIs (rowsOn t k)) := by
  refine Fn.of_vcN 28 [.tmp 4] Tryz.func91 rfl rfl rfl rfl rfl (of_decide_eq_true rfl) ?_
  simp -dsimp -implicitDefEqProofs only [go_sem, ↓reduceIte]
  repeat' (with_reducible refine And.intro ?_ ?_)
  all_goals try omega
  refine Later.up [1, 10, 11] [24, 25] [8] t.length (fun _ => True) (fun i => [(12, eI i), (5, .ref 8 0 0 (flt (fun i => (t.getD i []).getD k 0 == 1) i).length)]) (fun i => [(8, .row 0 ⟨1, false⟩ true ((flt (fun i => (t.getD i []).getD k 0 == 1) i).map eI))]) trivial ?_ rfl (fun i hi _ => ?_) (fun _ => ?_)
  · simp -dsimp -implicitDefEqProofs only [go_sem, ↓reduceIte, flt_zero]
    all_goals simp
  · have hl := flt_len (fun i => (t.getD i []).getD k 0 == 1) i
    have hs := flt_succ (fun i => (t.getD i []).getD k 0 == 1) i
    have hki := hk i hi
    have hp : (t.getD i []).getD k 0 = t[i][k] := by simp [List.getD_eq_getElem?_getD, hi, hki]
    rw [hp] at hs
    clear hp
    have gi := get_some hi
    have gk := get_some hki
    have li := lt_len hi
    simp -dsimp -implicitDefEqProofs only [pick_nil, pick_cons, look_nil, look_cons, dropB_nil, dropB_cons, inD_nil, inD_cons, inE_nil, inE_cons, or_t_l, or_f_l, Nat.reduceBEq, Nat.reduceDiv, Nat.reduceAdd, beq_self_eq_true, uq0, uq1, ↓reduceIte, Nat.reduceEqDiff, uq2, uq3]
    rw [hs]
    clear hs
    simp -dsimp -implicitDefEqProofs only [go_sem, ↓reduceIte, li, gi, gk]
    repeat' first
      | (refine Br.intro (fun _ => ?_) (fun _ => ?_) <;> try simp -dsimp -implicitDefEqProofs only [go_sem, ↓reduceIte, *])
      | (with_reducible refine And.intro ?_ ?_)
      | (refine Later.draw mixed rfl ?_; try simp -dsimp -implicitDefEqProofs only [go_sem, ↓reduceIte, *])
    all_goals first
      | omega | (refine ⟨?_, ?_⟩ <;> omega) | (simp; done) | (simp; omega)
      | rfl
      | (simp_all; done)
      | (simp_all; omega)
      | trace_state
  · have hl := flt_len (fun i => (t.getD i []).getD k 0 == 1) t.length
    simp -dsimp -implicitDefEqProofs only [pick_nil, pick_cons, look_nil, look_cons, dropB_nil, dropB_cons, inD_nil, inD_cons, inE_nil, inE_cons, or_t_l, or_f_l, Nat.reduceBEq, Nat.reduceDiv, Nat.reduceAdd, beq_self_eq_true, uq0, uq1, ↓reduceIte, Nat.reduceEqDiff, uq2, uq3]
    simp -dsimp -implicitDefEqProofs only [go_sem, ↓reduceIte, nlt_len]
    repeat' (with_reducible refine And.intro ?_ ?_)
    all_goals first
      | omega | (refine ⟨?_, ?_⟩ <;> omega) | (simp; done) | (simp; omega)
      | rfl
      | (simp [rowsOn]; done)
      | trace_state
theorem c_iIsSystem (m : MkM) (t : List (List Int)) (h : t.length ≤ 1048576) (h2 : ∀ x ∈ t, x.length ≤ 1048576) : Fn Tryz.prog 50 [eSy m t] true (· = eB (isSy m t)) := by
  refine Fn.of_vcN 28 [.tmp 2] Tryz.func50 rfl rfl rfl rfl rfl (of_decide_eq_true rfl) ?_
  rcases hb : (isMk m && isTb t) with _ | _
  · simp -dsimp -implicitDefEqProofs only [go_sem, ↓reduceIte]
    repeat' first
      | (refine Br.intro (fun _ => ?_) (fun _ => ?_) <;> try simp -dsimp -implicitDefEqProofs only [go_sem, ↓reduceIte, *])
      | (with_reducible refine And.intro ?_ ?_)
      | (refine sCallT_one (c_iIsMaker m) ?_; try simp -dsimp -implicitDefEqProofs only [go_sem, ↓reduceIte, *])
      | (refine sCallT_one (c_iIsTable t h h2) ?_; try simp -dsimp -implicitDefEqProofs only [go_sem, ↓reduceIte, *])
    all_goals first
      | omega
      | (simp_all [isSy]; done)
      | trace_state
  obtain ⟨hb1, hb2⟩ := Bool.and_eq_true_iff.1 hb
  obtain ⟨n1, n2, n3, n4, n5⟩ := isTb_num hb2
  have h00 : 0 < t.length := by omega
  have g0 := get_some h00
  have gd : t.getD 0 [] = t[0] := by simp [List.getD_eq_getElem?_getD, h00]
  rw [gd] at n3 n4 n5
  simp -dsimp -implicitDefEqProofs only [go_sem, ↓reduceIte, g0]
  repeat' first
    | (refine Br.intro (fun _ => ?_) (fun _ => ?_) <;> try simp -dsimp -implicitDefEqProofs only [go_sem, ↓reduceIte, *])
    | (with_reducible refine And.intro ?_ ?_)
    | (refine sCallT_one (c_iIsMaker m) ?_; try simp -dsimp -implicitDefEqProofs only [go_sem, ↓reduceIte, *])
    | (refine sCallT_one (c_iIsTable t h h2) ?_; try simp -dsimp -implicitDefEqProofs only [go_sem, ↓reduceIte, *])
  all_goals try (first | omega | (simp_all; done))
  refine Later.up [1, 18] [24, 25] [] t[0].length (fun i => (List.range i).all (doorOpen t)) (fun i => [(19, eI i)]) (fun _ => []) (by simp) ?_ rfl (fun i hi hI => ?_) (fun hI => ?_)
  · simp -dsimp -implicitDefEqProofs only [go_sem, ↓reduceIte, g0]
  · have no : doorOpen t i = false → isSy m t = false := fun h => by
      have : doorsOpen t = false := by rw [doorsOpen, gd]; exact range_all_no hi h
      simp [isSy, this]
    have yes : doorOpen t i = true → (List.range (i + 1)).all (doorOpen t) = true := fun h => by rw [range_all_succ, hI, h]; rfl
    have hr := rowsOn_nil t i
    clear hI gd
    simp -dsimp -implicitDefEqProofs only [pick_nil, pick_cons, look_nil, look_cons, dropB_nil, dropB_cons, inD_nil, inD_cons, inE_nil, inE_cons, or_t_l, or_f_l, Nat.reduceBEq, Nat.reduceDiv, Nat.reduceAdd, beq_self_eq_true, uq0, uq1, ↓reduceIte, Nat.reduceEqDiff, uq2, uq3]
    simp -dsimp -implicitDefEqProofs only [go_sem, ↓reduceIte, lt_len hi, hr]
    repeat' first
      | (refine Br.intro (fun _ => ?_) (fun _ => ?_) <;> try simp -dsimp -implicitDefEqProofs only [go_sem, ↓reduceIte, *])
      | (with_reducible refine And.intro ?_ ?_)
      | (refine sCallT_one (c_rowsFor m t i h (fun j hj => by rw [n5 j hj]; exact hi)) ?_; try simp -dsimp -implicitDefEqProofs only [go_sem, ↓reduceIte, lt_len hi, hr])
    all_goals first
      | omega
      | (refine ⟨?_, ?_⟩ <;> omega)
      | rfl
      | (simp; done)
      | (rw [no]; clear no yes; simp_all; done)
      | (rw [← List.range_succ]; refine yes ?_; clear no yes; simp_all; done)
      | trace_state
  · simp -dsimp -implicitDefEqProofs only [pick_nil, pick_cons, look_nil, look_cons, dropB_nil, dropB_cons, inD_nil, inD_cons, inE_nil, inE_cons, or_t_l, or_f_l, Nat.reduceBEq, Nat.reduceDiv, Nat.reduceAdd, beq_self_eq_true, uq0, uq1, ↓reduceIte, Nat.reduceEqDiff, uq2, uq3]
    simp -dsimp -implicitDefEqProofs only [go_sem, ↓reduceIte, nlt_len]
    first
      | (rw [isSy, hb1, hb2, doorsOpen, gd, hI]; rfl)
      | trace_state
theorem c_sIsSystem (m : MkM) (t : List (List Int)) (h : t.length ≤ 1048576) (h2 : ∀ x ∈ t, x.length ≤ 1048576) : Fn Tryz.prog 54 [eSy m t] true (· = eB (isSy m t)) := by
  refine Fn.of_vcN 46 [.tmp 2] Tryz.func54 rfl rfl rfl rfl rfl (of_decide_eq_true rfl) ?_
  rcases hb : (isMk m && isTb t) with _ | _
  · simp -dsimp -implicitDefEqProofs only [go_sem, ↓reduceIte]
    repeat' first
      | (refine Br.intro (fun _ => ?_) (fun _ => ?_) <;> try simp -dsimp -implicitDefEqProofs only [go_sem, ↓reduceIte, *])
      | (with_reducible refine And.intro ?_ ?_)
      | (refine sCallT_one (c_sIsMaker m) ?_; try simp -dsimp -implicitDefEqProofs only [go_sem, ↓reduceIte, *])
      | (refine sCallT_one (c_sIsTable t h h2) ?_; try simp -dsimp -implicitDefEqProofs only [go_sem, ↓reduceIte, *])
    all_goals first
      | omega
      | (simp_all [isSy]; done)
      | trace_state
  obtain ⟨hb1, hb2⟩ := Bool.and_eq_true_iff.1 hb
  obtain ⟨n1, n2, n3, n4, n5⟩ := isTb_num hb2
  have h00 : 0 < t.length := by omega
  have g0 := get_some h00
  have gd : t.getD 0 [] = t[0] := by simp [List.getD_eq_getElem?_getD, h00]
  rw [gd] at n3 n4 n5
  simp -dsimp -implicitDefEqProofs only [go_sem, ↓reduceIte, g0]
  repeat' first
    | (refine Br.intro (fun _ => ?_) (fun _ => ?_) <;> try simp -dsimp -implicitDefEqProofs only [go_sem, ↓reduceIte, *])
    | (with_reducible refine And.intro ?_ ?_)
    | (refine sCallT_one (c_sIsMaker m) ?_; try simp -dsimp -implicitDefEqProofs only [go_sem, ↓reduceIte, *])
    | (refine sCallT_one (c_sIsTable t h h2) ?_; try simp -dsimp -implicitDefEqProofs only [go_sem, ↓reduceIte, *])
  all_goals try (first | omega | (simp_all; done))
  refine Later.up [1] [21, 28] [] t[0].length (fun i => (List.range i).all (doorOpen t)) (fun i => [(3, eI i)]) (fun _ => []) (by simp) ?_ rfl (fun i hi hI => ?_) (fun hI => ?_)
  · simp -dsimp -implicitDefEqProofs only [go_sem, ↓reduceIte, g0]
  · have no : doorOpen t i = false → isSy m t = false := fun h => by
      have : doorsOpen t = false := by rw [doorsOpen, gd]; exact range_all_no hi h
      simp [isSy, this]
    have yes : doorOpen t i = true → (List.range (i + 1)).all (doorOpen t) = true := fun h => by rw [range_all_succ, hI, h]; rfl
    clear hI gd
    simp -dsimp -implicitDefEqProofs only [pick_nil, pick_cons, look_nil, look_cons, dropB_nil, dropB_cons, inD_nil, inD_cons, inE_nil, inE_cons, or_t_l, or_f_l, Nat.reduceBEq, Nat.reduceDiv, Nat.reduceAdd, beq_self_eq_true, uq0, uq1, ↓reduceIte, Nat.reduceEqDiff, uq2, uq3]
    simp -dsimp -implicitDefEqProofs only [go_sem, ↓reduceIte, lt_len hi, g0]
    repeat' first
      | (refine Br.intro (fun _ => ?_) (fun _ => ?_) <;> try simp -dsimp -implicitDefEqProofs only [go_sem, ↓reduceIte, *])
      | (with_reducible refine And.intro ?_ ?_)
    all_goals try (first | omega | rfl | (simp; done))
    refine Later.up [1, 3] [28] [] t.length (fun _ => True) (fun j => [(5, eI j), (4, eB ((t.take j).any fun r => r.getD i 0 == 1))]) (fun _ => []) trivial ?_ rfl (fun j hj _ => ?_) (fun _ => ?_)
    · simp -dsimp -implicitDefEqProofs only [go_sem, ↓reduceIte, List.take_zero, List.any_nil]
    · have gj := get_some hj
      have lj := lt_len hj
      have hij : i < t[j].length := by rw [n5 j hj]; exact hi
      have gij := get_some hij
      have ha := any_take (fun r => r.getD i 0 == 1) t j hj
      have he : t[j].getD i 0 = t[j][i] := by simp [List.getD_eq_getElem?_getD, hij]
      rw [he] at ha
      clear he no yes
      simp -dsimp -implicitDefEqProofs only [pick_nil, pick_cons, look_nil, look_cons, dropB_nil, dropB_cons, inD_nil, inD_cons, inE_nil, inE_cons, or_t_l, or_f_l, Nat.reduceBEq, Nat.reduceDiv, Nat.reduceAdd, beq_self_eq_true, uq0, uq1, ↓reduceIte, Nat.reduceEqDiff, uq2, uq3]
      rw [ha]
      clear ha
      simp -dsimp -implicitDefEqProofs only [go_sem, ↓reduceIte, gj, lj, gij]
      repeat' first
        | (refine Br.intro (fun _ => ?_) (fun _ => ?_) <;> try simp -dsimp -implicitDefEqProofs only [go_sem, ↓reduceIte, *])
        | (with_reducible refine And.intro ?_ ?_)
        | (refine Later.draw mixed rfl ?_; try simp -dsimp -implicitDefEqProofs only [go_sem, ↓reduceIte, *])
      all_goals first
        | omega
        | (refine ⟨?_, ?_⟩ <;> omega)
        | rfl
        | (simp; done)
        | (simp_all; done)
        | trace_state
    · simp -dsimp -implicitDefEqProofs only [pick_nil, pick_cons, look_nil, look_cons, dropB_nil, dropB_cons, inD_nil, inD_cons, inE_nil, inE_cons, or_t_l, or_f_l, Nat.reduceBEq, Nat.reduceDiv, Nat.reduceAdd, beq_self_eq_true, uq0, uq1, ↓reduceIte, Nat.reduceEqDiff, uq2, uq3]
      simp -dsimp -implicitDefEqProofs only [go_sem, ↓reduceIte, nlt_len]
      rw [List.take_length]
      have hd : (t.any fun r => r.getD i 0 == 1) = doorOpen t i := rfl
      rw [hd]
      repeat' first
        | (refine Br.intro (fun _ => ?_) (fun _ => ?_) <;> try simp -dsimp -implicitDefEqProofs only [go_sem, ↓reduceIte, *])
        | (with_reducible refine And.intro ?_ ?_)
      all_goals first
        | omega
        | (refine ⟨?_, ?_⟩ <;> omega)
        | rfl
        | (simp; done)
        | (rw [no]; clear no yes; simp_all; done)
        | (rw [← List.range_succ]; refine yes ?_; clear no yes; simp_all; done)
        | trace_state
  · simp -dsimp -implicitDefEqProofs only [pick_nil, pick_cons, look_nil, look_cons, dropB_nil, dropB_cons, inD_nil, inD_cons, inE_nil, inE_cons, or_t_l, or_f_l, Nat.reduceBEq, Nat.reduceDiv, Nat.reduceAdd, beq_self_eq_true, uq0, uq1, ↓reduceIte, Nat.reduceEqDiff, uq2, uq3]
    simp -dsimp -implicitDefEqProofs only [go_sem, ↓reduceIte, nlt_len, g0]
    repeat' (with_reducible refine And.intro ?_ ?_)
    all_goals first
      | omega
      | (rw [isSy, hb1, hb2, doorsOpen, gd, hI]; rfl)
      | trace_state
end Go.Vc


set_option linter.unusedVariables false
set_option linter.unusedSimpArgs false
set_option linter.unnecessarySimpa false
namespace Go.Vc
open Go.Proofs
def Sub (x y : AV) : Prop := ∀ (w : World) (S : Nat → Prop) (v : Value), Rd w S x v → Rd w S y v
inductive SubL : List AV → List AV → Prop
  | nil : SubL [] []
  | cons {x y : AV} {xs ys : List AV} (h : Sub x y) (hs : SubL xs ys) : SubL (x :: xs) (y :: ys)
theorem Sub.refl (x : AV) : Sub x x := fun _ _ _ h => h
theorem Sub.nil (sh : Sh) : Sub (.val (.slice none 0 0)) (.arr sh []) := fun _ _ _ h => by cases h; exact .nil sh none
theorem SubL.get {xs ys : List AV} (h : SubL xs ys) : xs.length = ys.length ∧ ∀ i (h1 : i < xs.length) (h2 : i < ys.length), Sub xs[i] ys[i] := by
  induction h with
  | nil => exact ⟨rfl, fun i h1 => absurd h1 (Nat.not_lt_zero _)⟩
  | cons h hs ih =>
    refine ⟨by simp [ih.1], fun i h1 h2 => ?_⟩
    cases i with
    | zero => exact h
    | succ i => exact ih.2 i (by simpa using h1) (by simpa using h2)
theorem Fn.subs {P : Program} {f : FuncId} {args args' : List AV} {own : Bool} {post : AV → Prop} (h : Fn P f args own post) (hs : SubL args' args) : Fn P f args' own post :=
  ⟨h.1, fun w S vs h1 h0 h2 h3 => h.2 w S vs h1 h0 (h2.trans hs.get.1) fun i hi => hs.get.2 i (by rw [hs.get.1]; exact hi) hi _ _ _ (h3 i _)⟩
abbrev eNil : AV := .val (.slice none 0 0)
end Go.Vc


set_option linter.unusedVariables false
set_option linter.unusedSimpArgs false
set_option linter.unnecessarySimpa false
namespace Go.Vc
end Go.Vc


set_option linter.unusedVariables false
set_option linter.unusedSimpArgs false
set_option linter.unnecessarySimpa false
namespace Go.Vc
open Go.Proofs
set_option maxRecDepth 100000
structure ItM where
  key : Bool
  index : Int
  copies : Int
  deriving DecidableEq, Inhabited
abbrev eIt (x : ItM) : AV := .agg [eB x.key, eI x.index, eI x.copies]
abbrev eIts (xs : List ItM) : AV := .arr ⟨3, true⟩ (xs.map eIt)
def itOk (d n : Nat) (x : ItM) : Bool := isIn x.index 0 ((if x.key then (n : Int) else d) - 1) && isIn x.copies 1 50
def isOrd (t : List (List Int)) (os : List ItM) : Bool := os.all (itOk (t.getD 0 []).length t.length) && decide (os.length ≤ 20)
theorem isOrd_no {t : List (List Int)} {os : List ItM} {i : Nat} (hi : i < os.length) (h : itOk (t.getD 0 []).length t.length os[i] = false) : isOrd t os = false := by
  rw [isOrd, all_no hi h]; simp
def isOrder (m : MkM) (t : List (List Int)) (os : List ItM) : Bool := isSy m t && isOrd t os
def ordCode (m : MkM) (t : List (List Int)) (os : List ItM) : Int := if isSy m t then (if isOrd t os then 0 else 2) else 1
theorem le20 (n : Nat) : decide ((n : Int) ≤ 20) = decide (n ≤ 20) := by rw [decide_eq_decide]; omega
theorem c_iisOrder (m : MkM) (t : List (List Int)) (os : List ItM) (h0 : 0 < t.length) (h : t.length ≤ 1048576) (h2 : ∀ x ∈ t, x.length ≤ 1048576) (h3 : os.length ≤ 2097152) : Fn Tryz.prog 53 [eSy m t, eIts os] true (· = eB (isOrd t os)) := by
  refine Fn.of_vcN 40 [.tmp 4] Tryz.func53 rfl rfl rfl rfl rfl (of_decide_eq_true rfl) ?_
  have g0 := get_some h0
  have gd : t.getD 0 [] = t[0] := by simp [List.getD_eq_getElem?_getD, h0]
  have hx0 := h2 t[0] (List.getElem_mem h0)
  simp -dsimp -implicitDefEqProofs only [go_sem, ↓reduceIte]
  refine Later.up [1, 2, 8, 9] [6, 18, 23, 28, 33] [] os.length (fun i => (os.take i).all (itOk t[0].length t.length)) (fun i => [(10, eI i)]) (fun _ => []) (by simp) ?_ rfl (fun i hi hI => ?_) (fun hI => ?_)
  · simp -dsimp -implicitDefEqProofs only [go_sem, ↓reduceIte]
  · have gi := get_some hi
    have li := lt_len hi
    have no : itOk t[0].length t.length os[i] = false → isOrd t os = false := fun h => isOrd_no hi (by rw [gd]; exact h)
    have yes : itOk t[0].length t.length os[i] = true → (os.take (i + 1)).all (itOk t[0].length t.length) = true := fun h => by rw [all_take _ _ _ hi, hI, h]; rfl
    clear gd hI
    simp -dsimp -implicitDefEqProofs only [pick_nil, pick_cons, look_nil, look_cons, dropB_nil, dropB_cons, inD_nil, inD_cons, inE_nil, inE_cons, or_t_l, or_f_l, Nat.reduceBEq, Nat.reduceDiv, Nat.reduceAdd, beq_self_eq_true, uq0, uq1, ↓reduceIte, Nat.reduceEqDiff, uq2, uq3]
    simp -dsimp -implicitDefEqProofs only [go_sem, ↓reduceIte, li, gi, g0]
    repeat' first
      | (refine Br.intro (fun _ => ?_) (fun _ => ?_) <;> try simp -dsimp -implicitDefEqProofs only [go_sem, ↓reduceIte, *])
      | (with_reducible refine And.intro ?_ ?_)
      | (refine sCallT_one (c_within _ _ _) ?_; try simp -dsimp -implicitDefEqProofs only [go_sem, ↓reduceIte, *])
    all_goals first
      | omega
      | (refine ⟨?_, ?_⟩ <;> omega)
      | rfl
      | (simp; done)
      | (rw [no]; clear no yes; simp_all [itOk, isIn]; done) | (rw [no]; clear no yes; simp_all [itOk, isIn]; omega) | (refine yes ?_; clear no yes; simp_all [itOk, isIn]; done) | (refine yes ?_; clear no yes; simp_all [itOk, isIn]; omega)
      | trace_state
  · simp -dsimp -implicitDefEqProofs only [pick_nil, pick_cons, look_nil, look_cons, dropB_nil, dropB_cons, inD_nil, inD_cons, inE_nil, inE_cons, or_t_l, or_f_l, Nat.reduceBEq, Nat.reduceDiv, Nat.reduceAdd, beq_self_eq_true, uq0, uq1, ↓reduceIte, Nat.reduceEqDiff, uq2, uq3]
    simp -dsimp -implicitDefEqProofs only [go_sem, ↓reduceIte, nlt_len]
    rw [List.take_length] at hI
    repeat' (with_reducible refine And.intro ?_ ?_)
    all_goals first
      | omega
      | (rw [isOrd, gd, hI, le20]; rfl)
      | trace_state
theorem c_l29Valid (m : MkM) (t : List (List Int)) (os : List ItM) (h0 : 0 < t.length) (h : t.length ≤ 1048576) (h2 : ∀ x ∈ t, x.length ≤ 1048576) (h3 : os.length ≤ 2097152) : Fn Tryz.prog 57 [eSy m t, eIts os] true (· = eB (isOrd t os)) := by
  refine Fn.of_vcN 47 [.tmp 4] Tryz.func57 rfl rfl rfl rfl rfl (of_decide_eq_true rfl) ?_
  have g0 := get_some h0
  have gd : t.getD 0 [] = t[0] := by simp [List.getD_eq_getElem?_getD, h0]
  have hx0 := h2 t[0] (List.getElem_mem h0)
  simp -dsimp -implicitDefEqProofs only [go_sem, ↓reduceIte]
  refine Later.up [1, 2] [9, 17, 25, 33, 41] [] os.length (fun i => (os.take i).all (itOk t[0].length t.length)) (fun i => [(5, eI i)]) (fun _ => []) (by simp) ?_ rfl (fun i hi hI => ?_) (fun hI => ?_)
  · simp -dsimp -implicitDefEqProofs only [go_sem, ↓reduceIte]
  · have gi := get_some hi
    have li := lt_len hi
    have no : itOk t[0].length t.length os[i] = false → isOrd t os = false := fun h => isOrd_no hi (by rw [gd]; exact h)
    have yes : itOk t[0].length t.length os[i] = true → (os.take (i + 1)).all (itOk t[0].length t.length) = true := fun h => by rw [all_take _ _ _ hi, hI, h]; rfl
    clear gd hI
    simp -dsimp -implicitDefEqProofs only [pick_nil, pick_cons, look_nil, look_cons, dropB_nil, dropB_cons, inD_nil, inD_cons, inE_nil, inE_cons, or_t_l, or_f_l, Nat.reduceBEq, Nat.reduceDiv, Nat.reduceAdd, beq_self_eq_true, uq0, uq1, ↓reduceIte, Nat.reduceEqDiff, uq2, uq3]
    simp -dsimp -implicitDefEqProofs only [go_sem, ↓reduceIte, li, gi, g0]
    repeat' first
      | (refine Br.intro (fun _ => ?_) (fun _ => ?_) <;> try simp -dsimp -implicitDefEqProofs only [go_sem, ↓reduceIte, *])
      | (with_reducible refine And.intro ?_ ?_)
      | (refine sCallT_one (c_l01In _ _ _) ?_; try simp -dsimp -implicitDefEqProofs only [go_sem, ↓reduceIte, *])
    all_goals first
      | omega
      | (refine ⟨?_, ?_⟩ <;> omega)
      | rfl
      | (simp; done)
      | (rw [no]; clear no yes; simp_all [itOk, isIn]; done) | (rw [no]; clear no yes; simp_all [itOk, isIn]; omega) | (refine yes ?_; clear no yes; simp_all [itOk, isIn]; done) | (refine yes ?_; clear no yes; simp_all [itOk, isIn]; omega)
      | trace_state
  · simp -dsimp -implicitDefEqProofs only [pick_nil, pick_cons, look_nil, look_cons, dropB_nil, dropB_cons, inD_nil, inD_cons, inE_nil, inE_cons, or_t_l, or_f_l, Nat.reduceBEq, Nat.reduceDiv, Nat.reduceAdd, beq_self_eq_true, uq0, uq1, ↓reduceIte, Nat.reduceEqDiff, uq2, uq3]
    simp -dsimp -implicitDefEqProofs only [go_sem, ↓reduceIte, nlt_len]
    rw [List.take_length] at hI
    repeat' (with_reducible refine And.intro ?_ ?_)
    all_goals first
      | omega
      | (rw [isOrd, gd, hI, le20]; rfl)
      | trace_state
theorem c_iIsOrder (m : MkM) (t : List (List Int)) (os : List ItM) (h : t.length ≤ 1048576) (h2 : ∀ x ∈ t, x.length ≤ 1048576) (h3 : os.length ≤ 1048576) : Fn Tryz.prog 19 [eSy m t, eIts os] true (· = eB (isOrder m t os)) := by
  refine Fn.of_vcN 12 [.tmp 4] Tryz.func19 rfl rfl rfl rfl rfl (of_decide_eq_true rfl) ?_
  rcases hb : isSy m t with _ | _
  · simp -dsimp -implicitDefEqProofs only [go_sem, ↓reduceIte]
    repeat' first
      | (refine Br.intro (fun _ => ?_) (fun _ => ?_) <;> try simp -dsimp -implicitDefEqProofs only [go_sem, ↓reduceIte, *])
      | (with_reducible refine And.intro ?_ ?_)
      | (refine sCallT_one (c_iIsSystem m t h h2) ?_; try simp -dsimp -implicitDefEqProofs only [go_sem, ↓reduceIte, *])
    all_goals first
      | omega
      | (simp_all [isOrder]; done)
      | trace_state
  have h0 : 0 < t.length := (isSy_num hb).1
  simp -dsimp -implicitDefEqProofs only [go_sem, ↓reduceIte]
  repeat' first
    | (refine Br.intro (fun _ => ?_) (fun _ => ?_) <;> try simp -dsimp -implicitDefEqProofs only [go_sem, ↓reduceIte, *])
    | (with_reducible refine And.intro ?_ ?_)
    | (refine sCallT_one (c_iIsSystem m t h h2) ?_; try simp -dsimp -implicitDefEqProofs only [go_sem, ↓reduceIte, *])
    | (refine sCallT_one (c_iisOrder m t os h0 h h2 (by omega)) ?_; try simp -dsimp -implicitDefEqProofs only [go_sem, ↓reduceIte, *])
  all_goals first
    | omega
    | (simp_all [isOrder]; done)
    | trace_state
theorem c_orderCode (m : MkM) (t : List (List Int)) (os : List ItM) (h : t.length ≤ 1048576) (h2 : ∀ x ∈ t, x.length ≤ 1048576) (h3 : os.length ≤ 1048576) : Fn Tryz.prog 42 [eSy m t, eIts os] true (· = eI (ordCode m t os)) := by
  refine Fn.of_vcN 12 [.tmp 4] Tryz.func42 rfl rfl rfl rfl rfl (of_decide_eq_true rfl) ?_
  rcases hb : isSy m t with _ | _
  · simp -dsimp -implicitDefEqProofs only [go_sem, ↓reduceIte]
    repeat' first
      | (refine Br.intro (fun _ => ?_) (fun _ => ?_) <;> try simp -dsimp -implicitDefEqProofs only [go_sem, ↓reduceIte, *])
      | (with_reducible refine And.intro ?_ ?_)
      | (refine sCallT_one (c_iIsSystem m t h h2) ?_; try simp -dsimp -implicitDefEqProofs only [go_sem, ↓reduceIte, *])
    all_goals first
      | omega
      | (simp_all [ordCode]; done)
      | trace_state
  have h0 : 0 < t.length := (isSy_num hb).1
  simp -dsimp -implicitDefEqProofs only [go_sem, ↓reduceIte]
  repeat' first
    | (refine Br.intro (fun _ => ?_) (fun _ => ?_) <;> try simp -dsimp -implicitDefEqProofs only [go_sem, ↓reduceIte, *])
    | (with_reducible refine And.intro ?_ ?_)
    | (refine sCallT_one (c_iIsSystem m t h h2) ?_; try simp -dsimp -implicitDefEqProofs only [go_sem, ↓reduceIte, *])
    | (refine sCallT_one (c_iisOrder m t os h0 h h2 (by omega)) ?_; try simp -dsimp -implicitDefEqProofs only [go_sem, ↓reduceIte, *])
  all_goals first
    | omega
    | (simp_all [ordCode]; done)
    | trace_state
theorem c_l29System (m : MkM) (t : List (List Int)) (os : List ItM) (h : t.length ≤ 1048576) (h2 : ∀ x ∈ t, x.length ≤ 1048576) (h3 : os.length ≤ 1048576) : Fn Tryz.prog 44 [eSy m t, eIts os] true (· = eI (ordCode m t os)) := by
  refine Fn.of_vcN 12 [.tmp 4] Tryz.func44 rfl rfl rfl rfl rfl (of_decide_eq_true rfl) ?_
  rcases hb : isSy m t with _ | _
  · simp -dsimp -implicitDefEqProofs only [go_sem, ↓reduceIte]
    repeat' first
      | (refine Br.intro (fun _ => ?_) (fun _ => ?_) <;> try simp -dsimp -implicitDefEqProofs only [go_sem, ↓reduceIte, *])
      | (with_reducible refine And.intro ?_ ?_)
      | (refine sCallT_one (c_sIsSystem m t h h2) ?_; try simp -dsimp -implicitDefEqProofs only [go_sem, ↓reduceIte, *])
    all_goals first
      | omega
      | (simp_all [ordCode]; done)
      | trace_state
  have h0 : 0 < t.length := (isSy_num hb).1
  simp -dsimp -implicitDefEqProofs only [go_sem, ↓reduceIte]
  repeat' first
    | (refine Br.intro (fun _ => ?_) (fun _ => ?_) <;> try simp -dsimp -implicitDefEqProofs only [go_sem, ↓reduceIte, *])
    | (with_reducible refine And.intro ?_ ?_)
    | (refine sCallT_one (c_sIsSystem m t h h2) ?_; try simp -dsimp -implicitDefEqProofs only [go_sem, ↓reduceIte, *])
    | (refine sCallT_one (c_l29Valid m t os h0 h h2 (by omega)) ?_; try simp -dsimp -implicitDefEqProofs only [go_sem, ↓reduceIte, *])
  all_goals first
    | omega
    | (simp_all [ordCode]; done)
    | trace_state
end Go.Vc


set_option linter.unusedVariables false
set_option linter.unusedSimpArgs false
set_option linter.unnecessarySimpa false
namespace Go.Vc
open Go.Proofs Go.RowKit
set_option maxRecDepth 100000
theorem Grown.of_below {w w' : World} (h : Below w.heap.size w w') : Grown w w' := by
  obtain ⟨h1, h2, h3, h4, h5⟩ := h
  exact ⟨h4, h5, ⟨h1, h2, h3⟩⟩
theorem Grown.of_grow (w : World) (k : Nat) (os : Array Obj) : Grown w (Sort.grow (w.drewN k) os) :=
  ⟨by simp [Sort.grow], fun b hb => Sort.heap_grow_old _ _ (by simpa using hb), ⟨rfl, rfl, rfl⟩⟩
theorem Fn.plain {P : Program} {f : FuncId} (us : List Value) {r : AV} (hE : Enters P f)
    (hc : ∀ (w : World) (S : Nat → Prop), Kon w S → Calls P f us.toArray w fun e w' => ∃ v fs, e = .returned v ∧ Grown w w' ∧ Own w' (fun _ => False) r v fs ∧ fs.Nodup ∧ ∀ b, b ∈ fs → w.heap.size ≤ b) :
    Fn P f (us.map .val) true (· = r) := by
  refine ⟨hE, fun w S vs _ hk hsz hr => ?_⟩
  have e : vs = us.toArray := by
    rw [List.length_map] at hsz
    apply Array.ext
    · simpa using hsz
    · intro i h1 h2
      have h3 : i < (us.map AV.val).length := by simpa using h2
      have := hr i h3
      rw [List.getElem_map] at this
      generalize hu : vs.toList.getD i Go.undef = u at this
      cases this
      have h4 : i < us.length := by simpa using h2
      have h5 : vs.toList.getD i Go.undef = vs[i] := by simp [List.getD_eq_getElem?_getD, h1]
      rw [← h5, hu]; simp
  subst e
  refine (hc w S hk).mono ?_
  rintro e w' ⟨v, fs, rfl, hg, ho, hn, hb⟩
  exact ⟨r, v, rfl, rfl, hg, by simp only [FnRes, if_true]; exact ⟨fs, ho, hn, hb⟩⟩
theorem Fn.plainE {P : Program} {f : FuncId} (us : List Value) {post : AV → Prop} (hE : Enters P f)
    (hc : ∀ (w : World) (S : Nat → Prop), Kon w S → Calls P f us.toArray w fun e w' => ∃ r v fs, post r ∧ e = .returned v ∧ Grown w w' ∧ Own w' (fun _ => False) r v fs ∧ fs.Nodup ∧ ∀ b, b ∈ fs → w.heap.size ≤ b) :
    Fn P f (us.map .val) true post := by
  refine ⟨hE, fun w S vs _ hk hsz hr => ?_⟩
  have e : vs = us.toArray := by
    rw [List.length_map] at hsz
    apply Array.ext
    · simpa using hsz
    · intro i h1 h2
      have h3 : i < (us.map AV.val).length := by simpa using h2
      have := hr i h3
      rw [List.getElem_map] at this
      generalize hu : vs.toList.getD i Go.undef = u at this
      cases this
      have h4 : i < us.length := by simpa using h2
      have h5 : vs.toList.getD i Go.undef = vs[i] := by simp [List.getD_eq_getElem?_getD, h1]
      rw [← h5, hu]; simp
  subst e
  refine (hc w S hk).mono ?_
  rintro e w' ⟨r, v, fs, hp, rfl, hg, ho, hn, hb⟩
  exact ⟨r, v, rfl, hp, hg, by simp only [FnRes, if_true]; exact ⟨fs, ho, hn, hb⟩⟩
theorem ownVal {w : World} {v : Value} (h : v.oneCell' = true) : Own w (fun _ => False) (.val v) v [] := .rd _ _ (.val _ h)
theorem cell_of {w : World} {g : Nat} {v : Value} {e : TypeId} {fr : Nat × Nat} (h : w.heap[g]? = some (.cells #[v] e fr)) : w.cell? ⟨g, 0, none⟩ = some v := by
  simp [World.cell?, h]
theorem ownTup {w : World} (xs : List AV) (vs : List Value) (hl : vs.length = xs.length) (h : ∀ i (h : i < xs.length), Own w (fun _ => False) xs[i] (vs.getD i Go.undef) []) : Own w (fun _ => False) (.tup xs) (.tuple vs.toArray) [] := by
  have e : ([] : List Nat) = (List.replicate xs.length ([] : List Nat)).flatten := (List.flatten_eq_nil_iff.2 fun l hl => (List.mem_replicate.1 hl).2).symm
  rw [e]
  refine .tup xs _ _ (by simpa using hl) (by simp) fun i hi => ?_
  have e3 : (List.replicate xs.length ([] : List Nat)).getD i [] = [] := by simp [List.getD_eq_getElem?_getD, hi]
  rw [e3]
  exact h i hi
theorem kon_tab {w : World} {S : Nat → Prop} (h : Kon w S) : Lib.TabIs Tryz.prog w "internal/strconv.uint64pow10" .u64 Lib.pow10Tab := by
  obtain ⟨_, cs, e, fr, h1, h2⟩ := h 1 kTab (by simp [kons])
  unfold Lib.TabIs World.var?
  have hg : Tryz.prog.globalNamed "internal/strconv.uint64pow10" = some 1 := by kernel_rfl
  rw [hg, Option.bind_some, h1, show cs = _ from h2]
  simp [Lib.pow10Tab, Function.comp_def]
theorem c_FormatInt {n : Int} (h : I64 n) : Fn Tryz.prog 118 [eI n, eI 10] true (· = eS (Lib.itoa n)) := by
  refine Fn.plain [.int .i64 n, .int .i64 10] ⟨Tryz.f118, _, Tryz.func118, by decide, rfl⟩ fun w S hk => ?_
  refine (Any.strconv_FormatInt_10 Tryz.layFormat n h.1 h.2 w (kon_tab hk)).mono ?_
  rintro e w' ⟨rfl, k, os, rfl⟩
  exact ⟨_, [], rfl, Grown.of_grow _ _ _, ownVal rfl, List.nodup_nil, fun b hb => by cases hb⟩
theorem Grown.of_bytes (w : World) (e : TypeId) (s : ByteArray) : Grown w (Lib.bytesWorld w e s) := Grown.of_below (Lib.bytesWorld_below w e s)
theorem kon_err {w : World} {S : Nat → Prop} (h : Kon w S) (g : Nat) (hg : (g, kIfc) ∈ kons) : ∃ t p, w.cell? ⟨g, 0, none⟩ = some (.iface t p) := by
  obtain ⟨_, cs, e, fr, h1, t, p, rfl⟩ := h g kIfc hg
  exact ⟨t, p, cell_of h1⟩
def intEnd (s : List UInt8) : Int := match Lib.parseIntB 64 s with
  | .ok v => v
  | .range => Lib.intSat 64 s
  | _ => 0
def intOk (s : List UInt8) : Bool := match Lib.parseIntB 64 s with
  | .ok _ => true
  | _ => false
theorem c_ParseInt (s : List UInt8) (h : s.length ≤ 1048576) : Fn Tryz.prog 127 [eS s, eI 10, eI 64] true
    (fun x => ∃ e, x = .tup [eI (intEnd s), .val e] ∧ if intOk s = true then e = .nilIface else ∃ t p, e = .iface t p) := by
  refine Fn.plainE [.string ⟨s.toArray⟩, .int .i64 10, .int .i64 64] ⟨Tryz.f127, _, Tryz.func127, by decide, rfl⟩ fun w S hk => ?_
  have hsz : (⟨s.toArray⟩ : ByteArray).size = s.length := ba_size s
  have tw : ∀ (w' : World) (n : Int) (e : Value), e.oneCell' = true → Own w' (fun _ => False) (.tup [eI n, .val e]) (.tuple #[.int .i64 n, e]) [] := fun w' n e he => by
    refine ownTup [eI n, .val e] [.int .i64 n, e] rfl fun i hi => ?_
    have : i = 0 ∨ i = 1 := by simp at hi; omega
    rcases this with rfl | rfl
    · exact ownVal rfl
    · exact ownVal he
  rcases hp : Lib.parseIntB 64 s with v | _ | _
  · refine (Any.strconv_ParseInt_10_at64_ok Tryz.layParse ⟨s.toArray⟩ (by omega) v (by rw [ba_data]; exact hp) w).mono ?_
    rintro e w' ⟨rfl, hw⟩
    refine ⟨.tup [eI v, .val .nilIface], _, [], ⟨.nilIface, by simp only [intEnd, hp], by simp [intOk, hp]⟩, rfl, ?_, tw _ _ _ rfl, List.nodup_nil, fun b hb => by cases hb⟩
    rcases hw with rfl | ⟨t, rfl⟩
    · exact Grown.refl _
    · exact Grown.of_bytes _ _ _
  · obtain ⟨tp, pv, hc⟩ := kon_err hk 4 (by simp [kons])
    refine (Any.strconv_ParseInt_10_at64_syntax Tryz.layParse ⟨s.toArray⟩ (by omega) (by rw [ba_data]; exact hp) _ w hc (.inr ⟨tp, pv, rfl⟩)).mono ?_
    rintro e w' ⟨N, rfl, _, _, hb⟩
    exact ⟨.tup [eI 0, .val _], _, [], ⟨.iface (Tryz.layParse_ren.t 168) (.pointer (some ⟨N, 0, none⟩)), by simp only [intEnd, hp], by simp only [intOk, hp]; exact ⟨_, _, rfl⟩⟩, rfl, Grown.of_below hb, tw _ _ _ rfl, List.nodup_nil, fun b hb => by cases hb⟩
  · obtain ⟨tp, pv, hc⟩ := kon_err hk 5 (by simp [kons])
    refine (Any.strconv_ParseInt_10_at64_range Tryz.layParse ⟨s.toArray⟩ (by omega) (by rw [ba_data]; exact hp) _ w hc (.inr ⟨tp, pv, rfl⟩)).mono ?_
    rintro e w' ⟨N, rfl, _, _, hb⟩
    exact ⟨.tup [eI (Lib.intSat 64 s), .val _], _, [], ⟨.iface (Tryz.layParse_ren.t 168) (.pointer (some ⟨N, 0, none⟩)), by simp only [intEnd, hp], by simp only [intOk, hp]; exact ⟨_, _, rfl⟩⟩, rfl, Grown.of_below hb, tw _ _ _ rfl, List.nodup_nil, fun b hb => by cases hb⟩
theorem kon_max {w : World} {S : Nat → Prop} (h : Kon w S) (g : Nat) (hg : (g, kInt) ∈ kons) : ∃ m, w.cell? ⟨g, 0, none⟩ = some (.int .i64 m) := by
  obtain ⟨_, cs, e, fr, h1, m, rfl⟩ := h g kInt hg
  exact ⟨m, cell_of h1⟩
theorem hi_split : (Tryz.prog.info? (Tryz.laySplit_ren.t 9)).map (fun i => (i.zero, i.size, i.bytes)) = some (some (.string ByteArray.empty), 1, 16) := by kernel_rfl
theorem spl_length_le (c : UInt8) : ∀ (l : List UInt8), (spl c l).length ≤ l.length + 1
  | [] => by simp [spl]
  | b :: l => by
    have := spl_length_le c l
    rw [spl]
    split
    · simp; omega
    · split
      · rename_i h t he
        rw [he] at this
        simp at this ⊢; omega
      · simp
theorem c_Split (s : List UInt8) (c : UInt8) (h : s.length ≤ 1048576) : Fn Tryz.prog 51 [eS s, eS [c]] true (· = eSs (spl c s)) := by
  refine Fn.plain [.string ⟨s.toArray⟩, .string ⟨[c].toArray⟩] ⟨Tryz.f51, _, Tryz.func51, by decide, rfl⟩ fun w S hk => ?_
  have hsz : (⟨s.toArray⟩ : ByteArray).size = s.length := ba_size s
  obtain ⟨m, hm⟩ := kon_max hk 0 (by simp [kons])
  refine (Any.strings_Split Tryz.laySplit hi_split ⟨s.toArray⟩ ⟨[c].toArray⟩ m w (by omega) hm (by show 1 ≤ 1; omega)).mono ?_
  rintro e w' ⟨rfl, rfl⟩
  have hs := splitB_spl c _ s rfl
  have hl : (spl c s).length = Lib.countB ⟨s.toArray⟩ ⟨[c].toArray⟩ + 1 := spl_count c _ s rfl
  have hle := spl_length_le c s
  refine ⟨_, [w.heap.size], rfl, ⟨by simp, fun b hb => old w _ b hb, ⟨rfl, rfl, rfl⟩⟩, ?_, by simp, fun b hb => by simp at hb; omega⟩
  rw [← hl, show (⟨#[c]⟩ : ByteArray) = ⟨[c].toArray⟩ from rfl] at *
  have e2 : [w.heap.size] = w.heap.size :: (List.replicate ((spl c s).map eS).length ([] : List Nat)).flatten := by
    congr 1
    exact (List.flatten_eq_nil_iff.2 fun l hl => (List.mem_replicate.1 hl).2).symm
  rw [e2, hs]
  have := Own.arr (w := w.alloc (.cells (((spl c s).map fun a => (⟨a.toArray⟩ : ByteArray)).map Value.string).toArray (Tryz.laySplit_ren.t 9))) (S := fun _ => False) ⟨1, false⟩ ((spl c s).map eS) w.heap.size (spl c s).length _ _ (List.replicate ((spl c s).map eS).length []) (new_cel w _ _)
    (by simp) (by simp) (by unfold maxLen; omega) (by intro i hi; simp [fits]) (by simp) fun i hi => ?_
  · simpa using this
  · have e3 : (List.replicate ((spl c s).map eS).length ([] : List Nat)).getD i [] = [] := by rw [List.getD_eq_getElem?_getD, List.getElem?_replicate]; split <;> rfl
    have hi2 : i < (spl c s).length := by simpa using hi
    rw [e3, elemV_cell, Nat.mul_one, List.getElem_map]
    have e4 : ((((spl c s).map fun a => (⟨a.toArray⟩ : ByteArray)).map Value.string).toArray).toList.getD i Go.undef = .string ⟨((spl c s)[i]).toArray⟩ := by
      simp [List.getD_eq_getElem?_getD, hi2]
    rw [e4]
    exact ownVal rfl
theorem rd_strs {w : World} {S : Nat → Prop} {xs : List (List UInt8)} {v : Value} (h : Rd w S (eSs xs) v) :
    (xs = [] ∧ ∃ a, v = .slice a 0 0) ∨ ∃ b off cap, v = .slice (some ⟨b, off, none⟩) xs.length cap ∧ b < w.heap.size ∧ xs.length ≤ cap ∧ ∀ (j : Nat) x, xs[j]? = some x → w.cell? ⟨b, off + j, none⟩ = some (.string ⟨x.toArray⟩) := by
  unfold eSs at h
  generalize hxs : xs.map eS = ys at h
  have hlen : ys.length = xs.length := by rw [← hxs]; simp
  cases h with
  | nil sh a => exact .inl ⟨List.eq_nil_of_length_eq_zero (by rw [← hlen]; rfl), a, rfl⟩
  | arr sh ys b off cap cs e fr hS hb hcap hl hf hv =>
    refine .inr ⟨b, off, cap, by rw [hlen], (Array.getElem?_eq_some_iff.1 hb).1, by omega, fun j x hj => ?_⟩
    obtain ⟨hj1, hj2⟩ := List.getElem?_eq_some_iff.1 hj
    have hj3 : j < ys.length := by omega
    have h2 := hv j hj3
    have hx : ys[j] = eS x := by simp [← hxs, hj2]
    rw [hx] at h2
    rw [elemV_cell, Nat.mul_one] at h2
    have h4 : cs.toList.getD (off + j) Go.undef = .string ⟨x.toArray⟩ := by
      generalize cs.toList.getD (off + j) Go.undef = u at h2
      cases h2; rfl
    have h5 : off + j < cs.size := by simp only [Nat.mul_one] at hl; omega
    rw [List.getD_eq_getElem?_getD, Array.getElem?_toList, Array.getElem?_eq_getElem h5] at h4
    simp only [World.cell?, hb, Option.isSome_none, uq0, ↓reduceIte, Array.getElem?_eq_getElem h5]
    exact congrArg some h4
theorem c_Join (xs : List (List UInt8)) (sep : List UInt8) (h1 : xs.length ≤ 1048576) (h2 : (Lib.join xs sep).length ≤ 140737488355328) : Fn Tryz.prog 88 [eSs xs, eS sep] true (· = eS (Lib.join xs sep)) := by
  refine ⟨⟨Tryz.f88, _, Tryz.func88, by decide, rfl⟩, fun w S vs hS hk hsz hr => ?_⟩
  obtain ⟨u, v, rfl⟩ : ∃ u v, vs = #[u, v] := by
    have : vs.size = 2 := hsz
    exact ⟨vs[0], vs[1], by apply Array.ext <;> simp_all; intro i h; have : i = 0 ∨ i = 1 := by omega
                            rcases this with rfl | rfl <;> (intro _; rfl)⟩
  have r0 : Rd w S (eSs xs) u := hr 0 (by simp)
  have r1 : Rd w S (eS sep) v := hr 1 (by simp)
  obtain rfl : v = .string ⟨sep.toArray⟩ := by cases r1; rfl
  have hm : ((xs.map fun a => (⟨a.toArray⟩ : ByteArray)).map (·.data.toList)) = xs := by simp [List.map_map, Function.comp_def]
  rcases rd_strs r0 with ⟨rfl, a, rfl⟩ | ⟨b, off, cap, rfl, hb, hcap, hc⟩
  · refine (Any.strings_Join_none Tryz.layJoin Tryz.extraJoin a 0 ⟨sep.toArray⟩ w).mono ?_
    rintro e w' ⟨rfl, rfl⟩
    exact ⟨_, _, rfl, rfl, Grown.refl _, by simp only [FnRes, if_true]; exact ⟨[], ownVal rfl, List.nodup_nil, fun b hb => by cases hb⟩⟩
  · have := Any.strings_Join Tryz.layJoin Tryz.extraJoin b off cap (xs.map fun a => (⟨a.toArray⟩ : ByteArray)) ⟨sep.toArray⟩ w (fun j x hj => by
      rw [List.getElem?_map] at hj
      obtain ⟨y, hy, rfl⟩ := Option.map_eq_some_iff.1 hj
      exact hc j y hy) hb (by simp; omega) (by simpa using hcap) (by rw [hm, ba_data]; exact h2)
    rw [hm, ba_data, List.length_map] at this
    refine this.mono ?_
    rintro e w' ⟨rfl, hbl⟩
    exact ⟨_, _, rfl, rfl, Grown.of_below hbl, by simp only [FnRes, if_true]; exact ⟨[], ownVal rfl, List.nodup_nil, fun b hb => by cases hb⟩⟩
end Go.Vc


set_option linter.unusedVariables false
set_option linter.unusedSimpArgs false
set_option linter.unnecessarySimpa false
namespace Go.Vc
open Go.Lib
theorem itoa_no {c : UInt8} (hc : ¬ (48 ≤ c.toNat ∧ c.toNat ≤ 57)) (h45 : c ≠ 45) (v : Int) : c ∉ itoa v := by
  unfold itoa
  split
  · intro h
    rcases List.mem_cons.1 h with h | h
    · exact h45 h
    · exact hc (dig_all _ c h)
  · intro h; exact hc (dig_all _ c h)
theorem no32 (v : Int) : (32 : UInt8) ∉ itoa v := itoa_no (by decide) (by decide) v
def partN (c : UInt8) (s : List UInt8) : List Int × Bool := if ((spl c s).all fun w => (numI w).2) = true then ((spl c s).map fun w => (numI w).1, true) else ([], false)
theorem itoa_len {v : Int} (h : I64 v) : (itoa v).length ≤ 21 := itoa_length_le v h.1 h.2
end Go.Vc


set_option linter.unusedVariables false
set_option linter.unusedSimpArgs false
set_option linter.unnecessarySimpa false
namespace Go.Vc
open Go.Proofs
set_option maxRecDepth 100000
def itK (b : Bool) (i : Nat) : List ItM := (List.range i).map fun j : Nat => ItM.mk b (j : Int) 1
theorem itK_zero (b : Bool) : itK b 0 = [] := rfl
theorem itK_len (b : Bool) (i : Nat) : (itK b i).length = i := by simp [itK]
theorem itK_succ (b : Bool) (i : Nat) : itK b (i + 1) = itK b i ++ [ItM.mk b (i : Int) 1] := by simp [itK, List.range_succ]
attribute [irreducible] itK
theorem take_self2 {α β : Type} {f : α → β} (xs : List α) (n : Nat) (h : xs.length = n) : (xs.map f).take n = xs.map f := by subst h; exact take_map_len f xs
def fullOrder (m : MkM) (t : List (List Int)) : List ItM × Int := if isSy m t then (if t.length + (t.getD 0 []).length > 20 then ([], 3) else (itK true t.length ++ itK false (t.getD 0 []).length, 0)) else ([], 1)
theorem c_sFullOrder (m : MkM) (t : List (List Int)) (h : t.length ≤ 1048576) (h2 : ∀ x ∈ t, x.length ≤ 1048576) : Fn Tryz.prog 17 [eSy m t] true (· = .tup [eIts (fullOrder m t).1, eI (fullOrder m t).2]) := by
  refine Fn.of_vcN 41 [.tmp 2, .tmp 3] Tryz.func17 rfl rfl rfl rfl rfl (of_decide_eq_true rfl) ?_
  rcases hb : isSy m t with _ | _
  · simp -dsimp -implicitDefEqProofs only [go_sem, ↓reduceIte]
    repeat' first
      | (refine Br.intro (fun _ => ?_) (fun _ => ?_) <;> try simp -dsimp -implicitDefEqProofs only [go_sem, ↓reduceIte, *])
      | (with_reducible refine And.intro ?_ ?_)
      | (refine sCallT_one (c_sIsSystem m t h h2) ?_; try simp -dsimp -implicitDefEqProofs only [go_sem, ↓reduceIte, *])
    all_goals first
      | omega
      | (simp_all [fullOrder]; done)
      | trace_state
  obtain ⟨n1, n2, n3, n4, n5⟩ := isSy_num hb
  have h00 : 0 < t.length := by omega
  have g0 := get_some h00
  have gd : t.getD 0 [] = t[0] := by simp [List.getD_eq_getElem?_getD, h00]
  rw [gd] at n3 n4 n5
  simp -dsimp -implicitDefEqProofs only [go_sem, ↓reduceIte, g0]
  repeat' first
    | (refine Br.intro (fun _ => ?_) (fun _ => ?_) <;> try simp -dsimp -implicitDefEqProofs only [go_sem, ↓reduceIte, *])
    | (with_reducible refine And.intro ?_ ?_)
    | (refine sCallT_one (c_sIsSystem m t h h2) ?_; try simp -dsimp -implicitDefEqProofs only [go_sem, ↓reduceIte, *])
  all_goals try (first | omega | (simp_all; done))
  refine Later.up [1] [14, 21, 22] [10] t.length (fun _ => True) (fun i => [(5, eI i), (4, .ref 10 0 0 i)]) (fun i => [(10, .row 0 ⟨3, true⟩ true ((itK true i).map eIt))]) trivial ?_ rfl (fun i hi _ => ?_) (fun _ => ?_)
  · simp -dsimp -implicitDefEqProofs only [go_sem, ↓reduceIte, itK_zero]
    all_goals simp
  · have hl := itK_len true i
    have hs := itK_succ true i
    simp -dsimp -implicitDefEqProofs only [pick_nil, pick_cons, look_nil, look_cons, dropB_nil, dropB_cons, inD_nil, inD_cons, inE_nil, inE_cons, or_t_l, or_f_l, Nat.reduceBEq, Nat.reduceDiv, Nat.reduceAdd, beq_self_eq_true, uq0, uq1, ↓reduceIte, Nat.reduceEqDiff, uq2, uq3]
    rw [hs]
    clear hs
    simp -dsimp -implicitDefEqProofs only [go_sem, ↓reduceIte, lt_len hi, hl]
    repeat' first
      | (refine Br.intro (fun _ => ?_) (fun _ => ?_) <;> try simp -dsimp -implicitDefEqProofs only [go_sem, ↓reduceIte, *])
      | (with_reducible refine And.intro ?_ ?_)
      | (refine Later.draw mixed rfl ?_; try simp -dsimp -implicitDefEqProofs only [go_sem, ↓reduceIte, *])
    all_goals first
      | omega | (refine ⟨?_, ?_⟩ <;> omega) | (simp; done) | (simp; omega)
      | rfl
      | (simp [take_self2 _ _ hl]; done)
      | (simp_all; done)
      | trace_state
  have hl := itK_len true t.length
  simp -dsimp -implicitDefEqProofs only [pick_nil, pick_cons, look_nil, look_cons, dropB_nil, dropB_cons, inD_nil, inD_cons, inE_nil, inE_cons, or_t_l, or_f_l, Nat.reduceBEq, Nat.reduceDiv, Nat.reduceAdd, beq_self_eq_true, uq0, uq1, ↓reduceIte, Nat.reduceEqDiff, uq2, uq3]
  simp -dsimp -implicitDefEqProofs only [go_sem, ↓reduceIte, nlt_len, g0]
  repeat' first
    | (refine Br.intro (fun _ => ?_) (fun _ => ?_) <;> try simp -dsimp -implicitDefEqProofs only [go_sem, ↓reduceIte, *])
    | (with_reducible refine And.intro ?_ ?_)
  all_goals try (first | omega | (simp_all; done))
  refine Later.up [1] [28, 35, 36] [10] t[0].length (fun _ => True) (fun i => [(6, eI i), (4, .ref 10 0 0 (t.length + i))]) (fun i => [(10, .row 0 ⟨3, true⟩ true ((itK true t.length ++ itK false i).map eIt))]) trivial ?_ rfl (fun i hi _ => ?_) (fun _ => ?_)
  · simp -dsimp -implicitDefEqProofs only [go_sem, ↓reduceIte, itK_zero]
    all_goals simp
  · have hl2 := itK_len false i
    have ht := take_self2 (f := eIt) (itK true t.length ++ itK false i) (t.length + i) (by simp [hl, hl2])
    have hs := itK_succ false i
    simp -dsimp -implicitDefEqProofs only [pick_nil, pick_cons, look_nil, look_cons, dropB_nil, dropB_cons, inD_nil, inD_cons, inE_nil, inE_cons, or_t_l, or_f_l, Nat.reduceBEq, Nat.reduceDiv, Nat.reduceAdd, beq_self_eq_true, uq0, uq1, ↓reduceIte, Nat.reduceEqDiff, uq2, uq3]
    rw [hs]
    clear hs
    simp -dsimp -implicitDefEqProofs only [go_sem, ↓reduceIte, lt_len hi, hl, hl2, g0]
    repeat' first
      | (refine Br.intro (fun _ => ?_) (fun _ => ?_) <;> try simp -dsimp -implicitDefEqProofs only [go_sem, ↓reduceIte, *])
      | (with_reducible refine And.intro ?_ ?_)
      | (refine Later.draw mixed rfl ?_; try simp -dsimp -implicitDefEqProofs only [go_sem, ↓reduceIte, *])
    all_goals first
      | omega | (refine ⟨?_, ?_⟩ <;> omega) | (simp; done) | (simp; omega)
      | rfl
      | (rw [ht]; simp; done)
      | (simp_all; done)
      | trace_state
  · have hl2 := itK_len false t[0].length
    have ht := take_self2 (f := eIt) (itK true t.length ++ itK false t[0].length) (t.length + t[0].length) (by simp [hl, hl2])
    have hf : (itK true t.length ++ itK false t[0].length).length = t.length + t[0].length := by simp [hl, hl2]
    have hF : fullOrder m t = if t.length + t[0].length > 20 then (([], 3) : List ItM × Int) else (itK true t.length ++ itK false t[0].length, 0) := by rw [fullOrder, hb, gd]; rfl
    simp -dsimp -implicitDefEqProofs only [pick_nil, pick_cons, look_nil, look_cons, dropB_nil, dropB_cons, inD_nil, inD_cons, inE_nil, inE_cons, or_t_l, or_f_l, Nat.reduceBEq, Nat.reduceDiv, Nat.reduceAdd, beq_self_eq_true, uq0, uq1, ↓reduceIte, Nat.reduceEqDiff, uq2, uq3]
    simp -dsimp -implicitDefEqProofs only [go_sem, ↓reduceIte, nlt_len, g0]
    repeat' first
      | (refine Br.intro (fun _ => ?_) (fun _ => ?_) <;> try simp -dsimp -implicitDefEqProofs only [go_sem, ↓reduceIte, *])
      | (with_reducible refine And.intro ?_ ?_)
      | (refine Later.draw mixed rfl ?_; try simp -dsimp -implicitDefEqProofs only [go_sem, ↓reduceIte, *])
    all_goals first
      | omega | (refine ⟨?_, ?_⟩ <;> omega) | (simp; done) | (simp; omega)
      | rfl
      | (rename_i hx
         have hc : t.length + t[0].length > 20 := by have := of_decide_eq_true hx; omega
         try rw [hF]
         rw [if_pos hc]
         try first | rfl | (simp; done)
         done)
      | (rename_i hx
         have hc : ¬ t.length + t[0].length > 20 := by have := of_decide_eq_false hx; omega
         try rw [hF]
         rw [if_neg hc]
         try first | rfl | (rw [ht]; done) | (simp [hl, hl2]; done)
         done)
      | trace_state
theorem c_iFullOrder (m : MkM) (t : List (List Int)) (h : t.length ≤ 1048576) (h2 : ∀ x ∈ t, x.length ≤ 1048576) : Fn Tryz.prog 16 [eSy m t] true (· = .tup [eIts (fullOrder m t).1, eI (fullOrder m t).2]) := by
  refine Fn.of_vcN 41 [.tmp 2, .tmp 3] Tryz.func16 rfl rfl rfl rfl rfl (of_decide_eq_true rfl) ?_
  rcases hb : isSy m t with _ | _
  · simp -dsimp -implicitDefEqProofs only [go_sem, ↓reduceIte]
    repeat' first
      | (refine Br.intro (fun _ => ?_) (fun _ => ?_) <;> try simp -dsimp -implicitDefEqProofs only [go_sem, ↓reduceIte, *])
      | (with_reducible refine And.intro ?_ ?_)
      | (refine sCallT_one (c_iIsSystem m t h h2) ?_; try simp -dsimp -implicitDefEqProofs only [go_sem, ↓reduceIte, *])
    all_goals first
      | omega
      | (simp_all [fullOrder]; done)
      | trace_state
  obtain ⟨n1, n2, n3, n4, n5⟩ := isSy_num hb
  have h00 : 0 < t.length := by omega
  have g0 := get_some h00
  have gd : t.getD 0 [] = t[0] := by simp [List.getD_eq_getElem?_getD, h00]
  rw [gd] at n3 n4 n5
  simp -dsimp -implicitDefEqProofs only [go_sem, ↓reduceIte, g0]
  repeat' first
    | (refine Br.intro (fun _ => ?_) (fun _ => ?_) <;> try simp -dsimp -implicitDefEqProofs only [go_sem, ↓reduceIte, *])
    | (with_reducible refine And.intro ?_ ?_)
    | (refine sCallT_one (c_iIsSystem m t h h2) ?_; try simp -dsimp -implicitDefEqProofs only [go_sem, ↓reduceIte, *])
  all_goals try (first | omega | (simp_all; done))
  refine Later.up [1, 13] [20, 21] [10] t.length (fun _ => True) (fun i => [(14, eI i), (4, .ref 10 0 0 i)]) (fun i => [(10, .row 0 ⟨3, true⟩ true ((itK true i).map eIt))]) trivial ?_ rfl (fun i hi _ => ?_) (fun _ => ?_)
  · simp -dsimp -implicitDefEqProofs only [go_sem, ↓reduceIte, itK_zero]
    all_goals simp
  · have hl := itK_len true i
    have hs := itK_succ true i
    simp -dsimp -implicitDefEqProofs only [pick_nil, pick_cons, look_nil, look_cons, dropB_nil, dropB_cons, inD_nil, inD_cons, inE_nil, inE_cons, or_t_l, or_f_l, Nat.reduceBEq, Nat.reduceDiv, Nat.reduceAdd, beq_self_eq_true, uq0, uq1, ↓reduceIte, Nat.reduceEqDiff, uq2, uq3]
    rw [hs]
    clear hs
    simp -dsimp -implicitDefEqProofs only [go_sem, ↓reduceIte, lt_len hi, hl]
    repeat' first
      | (refine Br.intro (fun _ => ?_) (fun _ => ?_) <;> try simp -dsimp -implicitDefEqProofs only [go_sem, ↓reduceIte, *])
      | (with_reducible refine And.intro ?_ ?_)
      | (refine Later.draw mixed rfl ?_; try simp -dsimp -implicitDefEqProofs only [go_sem, ↓reduceIte, *])
    all_goals first
      | omega | (refine ⟨?_, ?_⟩ <;> omega) | (simp; done) | (simp; omega)
      | rfl
      | (simp [take_self2 _ _ hl]; done)
      | (simp_all; done)
      | trace_state
  have hl := itK_len true t.length
  simp -dsimp -implicitDefEqProofs only [pick_nil, pick_cons, look_nil, look_cons, dropB_nil, dropB_cons, inD_nil, inD_cons, inE_nil, inE_cons, or_t_l, or_f_l, Nat.reduceBEq, Nat.reduceDiv, Nat.reduceAdd, beq_self_eq_true, uq0, uq1, ↓reduceIte, Nat.reduceEqDiff, uq2, uq3]
  simp -dsimp -implicitDefEqProofs only [go_sem, ↓reduceIte, nlt_len, g0]
  repeat' first
    | (refine Br.intro (fun _ => ?_) (fun _ => ?_) <;> try simp -dsimp -implicitDefEqProofs only [go_sem, ↓reduceIte, *])
    | (with_reducible refine And.intro ?_ ?_)
  all_goals try (first | omega | (simp_all; done))
  refine Later.up [27] [34, 35] [10] t[0].length (fun _ => True) (fun i => [(28, eI i), (4, .ref 10 0 0 (t.length + i))]) (fun i => [(10, .row 0 ⟨3, true⟩ true ((itK true t.length ++ itK false i).map eIt))]) trivial ?_ rfl (fun i hi _ => ?_) (fun _ => ?_)
  · simp -dsimp -implicitDefEqProofs only [go_sem, ↓reduceIte, itK_zero]
    all_goals simp
  · have hl2 := itK_len false i
    have ht := take_self2 (f := eIt) (itK true t.length ++ itK false i) (t.length + i) (by simp [hl, hl2])
    have hs := itK_succ false i
    simp -dsimp -implicitDefEqProofs only [pick_nil, pick_cons, look_nil, look_cons, dropB_nil, dropB_cons, inD_nil, inD_cons, inE_nil, inE_cons, or_t_l, or_f_l, Nat.reduceBEq, Nat.reduceDiv, Nat.reduceAdd, beq_self_eq_true, uq0, uq1, ↓reduceIte, Nat.reduceEqDiff, uq2, uq3]
    rw [hs]
    clear hs
    simp -dsimp -implicitDefEqProofs only [go_sem, ↓reduceIte, lt_len hi, hl, hl2, g0]
    repeat' first
      | (refine Br.intro (fun _ => ?_) (fun _ => ?_) <;> try simp -dsimp -implicitDefEqProofs only [go_sem, ↓reduceIte, *])
      | (with_reducible refine And.intro ?_ ?_)
      | (refine Later.draw mixed rfl ?_; try simp -dsimp -implicitDefEqProofs only [go_sem, ↓reduceIte, *])
    all_goals first
      | omega | (refine ⟨?_, ?_⟩ <;> omega) | (simp; done) | (simp; omega)
      | rfl
      | (rw [ht]; simp; done)
      | (simp_all; done)
      | trace_state
  · have hl2 := itK_len false t[0].length
    have ht := take_self2 (f := eIt) (itK true t.length ++ itK false t[0].length) (t.length + t[0].length) (by simp [hl, hl2])
    have hf : (itK true t.length ++ itK false t[0].length).length = t.length + t[0].length := by simp [hl, hl2]
    have hF : fullOrder m t = if t.length + t[0].length > 20 then (([], 3) : List ItM × Int) else (itK true t.length ++ itK false t[0].length, 0) := by rw [fullOrder, hb, gd]; rfl
    simp -dsimp -implicitDefEqProofs only [pick_nil, pick_cons, look_nil, look_cons, dropB_nil, dropB_cons, inD_nil, inD_cons, inE_nil, inE_cons, or_t_l, or_f_l, Nat.reduceBEq, Nat.reduceDiv, Nat.reduceAdd, beq_self_eq_true, uq0, uq1, ↓reduceIte, Nat.reduceEqDiff, uq2, uq3]
    simp -dsimp -implicitDefEqProofs only [go_sem, ↓reduceIte, nlt_len, g0]
    repeat' first
      | (refine Br.intro (fun _ => ?_) (fun _ => ?_) <;> try simp -dsimp -implicitDefEqProofs only [go_sem, ↓reduceIte, *])
      | (with_reducible refine And.intro ?_ ?_)
      | (refine Later.draw mixed rfl ?_; try simp -dsimp -implicitDefEqProofs only [go_sem, ↓reduceIte, *])
    all_goals first
      | omega | (refine ⟨?_, ?_⟩ <;> omega) | (simp; done) | (simp; omega)
      | rfl
      | (rename_i hx
         have hc : t.length + t[0].length > 20 := by have := of_decide_eq_true hx; omega
         try rw [hF]
         rw [if_pos hc]
         try first | rfl | (simp; done)
         done)
      | (rename_i hx
         have hc : ¬ t.length + t[0].length > 20 := by have := of_decide_eq_false hx; omega
         try rw [hF]
         rw [if_neg hc]
         try first | rfl | (rw [ht]; done) | (simp [hl, hl2]; done)
         done)
      | trace_state
end Go.Vc


set_option linter.unusedVariables false
set_option linter.unusedSimpArgs false
set_option linter.unnecessarySimpa false
namespace Go.Vc
open Go.Proofs Go.Shelf Go.RowKit Go.Lib Go.Sort
set_option maxRecDepth 1000000
end Go.Vc


set_option linter.unusedVariables false
set_option linter.unusedSimpArgs false
set_option linter.unnecessarySimpa false
namespace Go.Vc
open Go.Proofs
set_option maxRecDepth 100000
theorem ordCode_zero {m : MkM} {t : List (List Int)} {os : List ItM} (h : ordCode m t os = 0) : isSy m t = true ∧ isOrd t os = true := by
  unfold ordCode at h
  split at h
  · split at h
    · exact ⟨‹_›, ‹_›⟩
    · cases h
  · cases h
theorem c_CloneIt (os : List ItM) (h : os.length ≤ 1048576) : Fn Tryz.prog 60 [eIts os] true (· = eIts os) := by
  refine Fn.of_vcN 8 [.tmp 2] Tryz.func60 rfl rfl rfl rfl rfl (of_decide_eq_true rfl) ?_
  simp -dsimp -implicitDefEqProofs only [go_sem, ↓reduceIte]
  intro c hc
  repeat' first
    | (refine Br.intro (fun _ => ?_) (fun _ => ?_) <;> try simp -dsimp -implicitDefEqProofs only [go_sem, ↓reduceIte, *])
    | (with_reducible refine And.intro ?_ ?_)
  all_goals first | (simp_all; done) | omega | (refine ⟨?_, ?_⟩ <;> omega) | (simp; done) | (simp; omega) | trace_state
end Go.Vc


set_option linter.unusedVariables false
set_option linter.unusedSimpArgs false
set_option linter.unnecessarySimpa false
namespace Go.Vc
open Go.Proofs
set_option maxRecDepth 100000
def cmpIt (a b : ItM) : Int := if (a.key != b.key) = true then (if a.key = true then -1 else 1) else a.index - b.index
def rkIt (r : Int) (x : ItM) : Int := if x.key = true then x.index else r + x.index
def okIx (r : Int) (x : ItM) : Prop := (0 ≤ x.index ∧ x.index ≤ 1000) ∧ (x.key = true → x.index < r)
theorem cmp_rk {r : Int} {a b : ItM} (ha : okIx r a) (hb : okIx r b) : (cmpIt a b < 0 ↔ rkIt r a < rkIt r b) ∧ (cmpIt a b = 0 ↔ rkIt r a = rkIt r b) := by
  obtain ⟨⟨a1, a2⟩, a3⟩ := ha
  obtain ⟨⟨b1, b2⟩, b3⟩ := hb
  unfold cmpIt rkIt
  rcases hk : a.key with _ | _ <;> rcases hl : b.key with _ | _ <;> simp
  · omega
  · have := b3 hl; omega
  · have := a3 hk; omega
  · omega
theorem c_compareItems {r : Int} {a b : ItM} (ha : okIx r a) (hb : okIx r b) : Fn Tryz.prog 62 [eIt a, eIt b] true (· = eI (cmpIt a b)) := by
  obtain ⟨⟨a1, a2⟩, _⟩ := ha
  obtain ⟨⟨b1, b2⟩, _⟩ := hb
  refine Fn.of_vcN 17 [.tmp 4] Tryz.func62 rfl rfl rfl rfl rfl (of_decide_eq_true rfl) ?_
  unfold cmpIt
  rcases hk : a.key with _ | _ <;> rcases hl : b.key with _ | _
  all_goals
    simp -dsimp -implicitDefEqProofs only [go_sem, ↓reduceIte, hk, hl]
    repeat' first
      | (refine Br.intro (fun _ => ?_) (fun _ => ?_) <;> try simp -dsimp -implicitDefEqProofs only [go_sem, ↓reduceIte, *])
      | (with_reducible refine And.intro ?_ ?_)
    all_goals first | (rename_i hx; exact absurd hx (by decide)) | (first | omega | (refine ⟨?_, ?_⟩ <;> omega) | (exact rfl) | (simp; done) | trace_state) | (simp_all; done)
structure Same (os D : List ItM) : Prop where
  len : D.length = os.length
  mem : ∀ x, x ∈ D → x ∈ os
  sum : ∀ f : ItM → Int, (D.map f).sum = (os.map f).sum
theorem Same.refl (os : List ItM) : Same os os := ⟨rfl, fun _ h => h, fun _ => rfl⟩
theorem sum_set (f : ItM → Int) : ∀ (D : List ItM) (j : Nat) (y : ItM) (h : j < D.length), ((D.set j y).map f).sum = (D.map f).sum - f D[j] + f y
  | [], j, _, h => absurd h (Nat.not_lt_zero _)
  | x :: D, 0, y, h => by simp; omega
  | x :: D, j + 1, y, h => by
    have := sum_set f D j y (by simpa using h)
    simp only [List.set_cons_succ, List.map_cons, List.sum_cons, List.getElem_cons_succ, this]
    omega
def swp (D : List ItM) (j : Nat) : List ItM := (D.set j (D.getD (j - 1) default)).set (j - 1) (D.getD j default)
theorem swp_len (D : List ItM) (j : Nat) : (swp D j).length = D.length := by simp [swp]
theorem getD_get {D : List ItM} {j : Nat} (h : j < D.length) : D.getD j default = D[j] := by simp [List.getD_eq_getElem?_getD, h]
theorem swp_get (D : List ItM) (j p : Nat) (h0 : 0 < j) (hj : j < D.length) : (swp D j).getD p default = if p = j - 1 then D.getD j default else if p = j then D.getD (j - 1) default else D.getD p default := by
  simp only [swp, List.getD_eq_getElem?_getD, List.getElem?_set, List.length_set]
  by_cases h1 : p = j - 1
  · subst h1
    rw [if_pos rfl, if_pos rfl, if_pos (by omega)]; rfl
  · rw [if_neg (by omega), if_neg h1]
    by_cases h2 : p = j
    · subst h2
      rw [if_pos rfl, if_pos rfl, if_pos hj]; rfl
    · rw [if_neg (by omega), if_neg h2]
theorem Same.swp {os D : List ItM} (h : Same os D) {j : Nat} (h0 : 0 < j) (hj : j < D.length) : Same os (swp D j) := by
  have e0 := getD_get hj
  have e1 := getD_get (D := D) (j := j - 1) (by omega)
  refine ⟨(swp_len D j).trans h.len, fun x hx => ?_, fun f => ?_⟩
  · unfold Go.Vc.swp at hx
    rcases List.mem_or_eq_of_mem_set hx with hx | hx
    · rcases List.mem_or_eq_of_mem_set hx with hx | hx
      · exact h.mem x hx
      · rw [hx, e1]; exact h.mem _ (List.getElem_mem _)
    · rw [hx, e0]; exact h.mem _ (List.getElem_mem _)
  · rw [← h.sum f]
    unfold Go.Vc.swp
    rw [sum_set f _ (j - 1) _ (by simp; omega), sum_set f D j _ hj]
    have : (D.set j (D.getD (j - 1) default))[j - 1]'(by simp; omega) = D[j - 1] := by rw [List.getElem_set_ne (by omega)]
    rw [this, e0, e1]; omega
def srt (r : Int) (D : List ItM) (n : Nat) : Prop := ∀ p q, p < q → q < n → rkIt r (D.getD p default) ≤ rkIt r (D.getD q default)
def hol (r : Int) (D : List ItM) (i j : Nat) : Prop := (∀ p q, p < q → q < i + 1 → p ≠ j → q ≠ j → rkIt r (D.getD p default) ≤ rkIt r (D.getD q default)) ∧ ∀ q, j < q → q < i + 1 → rkIt r (D.getD j default) ≤ rkIt r (D.getD q default)
theorem hol_start {r : Int} {D : List ItM} {i : Nat} (h : srt r D i) : hol r D i i :=
  ⟨fun p q h1 h2 h3 h4 => h p q h1 (by omega), fun q h1 h2 => absurd h1 (by omega)⟩
theorem hol_end0 {r : Int} {D : List ItM} {i : Nat} (h : hol r D i 0) : srt r D (i + 1) := by
  intro p q h1 h2
  by_cases e : p = 0
  · subst e; exact h.2 q h1 h2
  · exact h.1 p q h1 h2 e (by omega)
theorem hol_end {r : Int} {D : List ItM} {i j : Nat} (h : hol r D i j) (h0 : 0 < j) (hji : j ≤ i) (hc : rkIt r (D.getD (j - 1) default) ≤ rkIt r (D.getD j default)) : srt r D (i + 1) := by
  intro p q h1 h2
  by_cases e : p = j
  · subst e; exact h.2 q h1 h2
  · by_cases e2 : q = j
    · subst e2
      by_cases e3 : p = q - 1
      · subst e3; exact hc
      · exact Int.le_trans (h.1 p (q - 1) (by omega) (by omega) e (by omega)) hc
    · exact h.1 p q h1 h2 e e2
theorem hol_step {r : Int} {D : List ItM} {i j : Nat} (h : hol r D i j) (h0 : 0 < j) (hji : j ≤ i) (hi : i < D.length) (hc : rkIt r (D.getD j default) < rkIt r (D.getD (j - 1) default)) : hol r (swp D j) i (j - 1) := by
  have g := fun p => swp_get D j p h0 (by omega)
  refine ⟨fun p q h1 h2 h3 h4 => ?_, fun q h1 h2 => ?_⟩
  · rw [g, g, if_neg h3, if_neg h4]
    by_cases e : p = j
    · rw [if_pos e, if_neg (by omega)]
      exact h.1 (j - 1) q (by omega) h2 (by omega) (by omega)
    · rw [if_neg e]
      by_cases e2 : q = j
      · rw [if_pos e2]
        exact h.1 p (j - 1) (by omega) (by omega) e (by omega)
      · rw [if_neg e2]
        exact h.1 p q h1 h2 e e2
  · rw [g, g, if_pos rfl, if_neg (by omega)]
    by_cases e2 : q = j
    · rw [if_pos e2]; omega
    · rw [if_neg e2]
      exact h.2 q (by omega) h2
set_option maxHeartbeats 4000000 in
theorem vc_ins (m : MkM) (t : List (List Int)) (r : Int) (os : List ItM) (h20 : os.length ≤ 20) (hok : ∀ x, x ∈ os → okIx r x) (Q : Post)
    (hQ : ∀ D ts, Same os D → srt r D os.length → Q .normal ts [(1500020000, .row 0 ⟨3, true⟩ true (D.map eIt)), (1500000020, .row 0 ⟨3, true⟩ true []), (1500000002, .box 0 [eI m.chambers, eI m.depths, eI m.step, eI m.same, eI m.least, eIss t])]) :
    ∀ c, Tryz.f130.body = some c → vc Tryz.prog 53 c (argsE 0 [.ref 1500020000 0 0 os.length, eI 0, eI os.length, .clo 62 []])
      [(1500020000, .row 0 ⟨3, true⟩ true (os.map eIt)), (1500000020, .row 0 ⟨3, true⟩ true []), (1500000002, .box 0 [eI m.chambers, eI m.depths, eI m.step, eI m.same, eI m.least, eIss t])] Q := by
  intro c hc
  obtain rfl := (Option.some.inj hc).symm
  simp -dsimp -implicitDefEqProofs only [go_sem, ↓reduceIte]
  repeat' (with_reducible refine And.intro ?_ ?_)
  all_goals try (first | omega | (refine ⟨?_, ?_⟩ <;> omega))
  refine Later.lp [0, 1, 2, 3] [32] [1500020000] (fun x : Nat × List ItM => 1 ≤ x.1 ∧ x.1 ≤ 20 ∧ Same os x.2 ∧ srt r x.2 (min x.1 os.length)) (fun x => [(8, eI x.1)]) (fun x => [(1500020000, .row 0 ⟨3, true⟩ true (x.2.map eIt))]) (fun x => 20 - x.1) (1, os) ⟨Nat.le_refl _, by omega, Same.refl os, ?_⟩ ?_ rfl (fun x hI => ?_)
  · intro p q h1 h2; exact absurd h1 (by omega)
  · simp -dsimp -implicitDefEqProofs only [go_sem, ↓reduceIte]
    all_goals exact rfl
  · obtain ⟨i, D⟩ := x
    obtain ⟨i1, i2, hS, hs⟩ := hI
    dsimp only at i1 i2 hS hs ⊢
    have hDl := hS.len
    rcases hi : decide ((i : Int) < os.length) with _ | _
    · have hi' := of_decide_eq_false hi
      rw [Nat.min_eq_right (by omega)] at hs
      simp -dsimp -implicitDefEqProofs only [pick_nil, pick_cons, look_nil, look_cons, dropB_nil, dropB_cons, inD_nil, inD_cons, inE_nil, inE_cons, or_t_l, or_f_l, Nat.reduceBEq, Nat.reduceDiv, Nat.reduceAdd, beq_self_eq_true, uq0, uq1, ↓reduceIte, Nat.reduceEqDiff, uq2, uq3]
      simp -dsimp -implicitDefEqProofs only [go_sem, ↓reduceIte, hi]
      exact hQ D _ hS hs
    · have hi' := of_decide_eq_true hi
      rw [Nat.min_eq_left (by omega)] at hs
      simp -dsimp -implicitDefEqProofs only [pick_nil, pick_cons, look_nil, look_cons, dropB_nil, dropB_cons, inD_nil, inD_cons, inE_nil, inE_cons, or_t_l, or_f_l, Nat.reduceBEq, Nat.reduceDiv, Nat.reduceAdd, beq_self_eq_true, uq0, uq1, ↓reduceIte, Nat.reduceEqDiff, uq2, uq3]
      simp -dsimp -implicitDefEqProofs only [go_sem, ↓reduceIte, hi]
      refine Later.lp [0, 1, 2, 3, 8] [32] [1500020000] (fun x : Nat × List ItM => x.1 ≤ i ∧ Same os x.2 ∧ hol r x.2 i x.1) (fun x => [(9, eI x.1)]) (fun x => [(1500020000, .row 0 ⟨3, true⟩ true (x.2.map eIt))]) (fun x => x.1) (i, D) ⟨Nat.le_refl _, hS, hol_start hs⟩ ?_ rfl (fun x hJ => ?_)
      · simp -dsimp -implicitDefEqProofs only [go_sem, ↓reduceIte]
      · obtain ⟨j, E⟩ := x
        obtain ⟨j1, jS, jh⟩ := hJ
        dsimp only at j1 jS jh ⊢
        clear hS hs hDl
        have hEl := jS.len
        rcases Nat.eq_zero_or_pos j with rfl | h0
        · have d0 : decide ((0 : Int) > 0) = false := rfl
          have hnew := hol_end0 jh
          simp -dsimp -implicitDefEqProofs only [pick_nil, pick_cons, look_nil, look_cons, dropB_nil, dropB_cons, inD_nil, inD_cons, inE_nil, inE_cons, or_t_l, or_f_l, Nat.reduceBEq, Nat.reduceDiv, Nat.reduceAdd, beq_self_eq_true, uq0, uq1, ↓reduceIte, Nat.reduceEqDiff, uq2, uq3]
          simp -dsimp -implicitDefEqProofs only [go_sem, ↓reduceIte, d0]
          refine Later.draw mixed rfl ?_
          simp -dsimp -implicitDefEqProofs only [go_sem, ↓reduceIte, d0]
          ((repeat' (with_reducible refine And.intro ?_ ?_)); all_goals try (first | omega | (refine ⟨?_, ?_⟩ <;> omega) | (exact rfl)))
          all_goals try (refine ⟨(i + 1, E), ⟨by omega, by omega, jS, by rw [Nat.min_eq_left (by omega)]; exact hnew⟩, by dsimp only; omega, ?_⟩; simp -dsimp -implicitDefEqProofs only [go_sem, ↓reduceIte])
          all_goals (first | omega | (refine ⟨?_, ?_⟩ <;> omega) | (exact rfl) | (simp; done) | trace_state)
        · have d0 : decide ((j : Int) > 0) = true := decide_eq_true (by omega)
          have hj : j < E.length := by omega
          have hj2 : j - 1 < E.length := by omega
          have gj := get_some hj
          have gj2 := get_some hj2
          have hp := pred_toNat h0
          have m1 := hok _ (jS.mem _ (List.getElem_mem hj))
          have m2 := hok _ (jS.mem _ (List.getElem_mem hj2))
          have ccc := c_compareItems m1 m2
          have hrk := (cmp_rk m1 m2).1
          have e0 := getD_get hj
          have e1 := getD_get hj2
          have hend := hol_end jh h0 j1
          have hstep := hol_step jh h0 j1 (by omega)
          have hsw : swp E j = (E.set j E[j - 1]).set (j - 1) E[j] := by rw [swp, e0, e1]
          rw [e0, e1] at hend hstep
          rw [hsw] at hstep
          have hsame := jS.swp h0 hj
          rw [hsw] at hsame
          have hsl : ((E.set j E[j - 1]).set (j - 1) E[j]).length = os.length := hsame.len
          have hms : ((E.set j E[j - 1]).set (j - 1) E[j]).map eIt = ((E.map eIt).set j (eIt E[j - 1])).set (j - 1) (eIt E[j]) := by rw [List.map_set, List.map_set]
          have gj3 : ∀ y, ((E.map eIt).set j y)[j - 1]? = some (eIt E[j - 1]) := fun y => by rw [List.getElem?_set_ne (by omega), List.getElem?_map, gj2]; rfl
          clear e0 e1 hsw
          rcases hcm : decide (cmpIt E[j] E[j - 1] < 0) with _ | _
          · have hnew := hend (by have := of_decide_eq_false hcm; omega)
            clear hstep hsame hms hsl gj3
            generalize E[j] = a at *
            generalize E[j - 1] = b at *
            generalize cmpIt a b = z at *
            simp -dsimp -implicitDefEqProofs only [pick_nil, pick_cons, look_nil, look_cons, dropB_nil, dropB_cons, inD_nil, inD_cons, inE_nil, inE_cons, or_t_l, or_f_l, Nat.reduceBEq, Nat.reduceDiv, Nat.reduceAdd, beq_self_eq_true, uq0, uq1, ↓reduceIte, Nat.reduceEqDiff, uq2, uq3]
            simp -dsimp -implicitDefEqProofs only [go_sem, ↓reduceIte, d0]
            refine Later.draw mixed rfl ?_
            simp -dsimp -implicitDefEqProofs only [go_sem, ↓reduceIte, d0, gj, gj2, hp]
            ((repeat' (with_reducible refine And.intro ?_ ?_)); all_goals try (first | omega | (refine ⟨?_, ?_⟩ <;> omega) | (exact rfl)))
            all_goals try simp -dsimp -implicitDefEqProofs only [go_sem, ↓reduceIte, gj, gj2, hp]
            ((repeat' (with_reducible refine And.intro ?_ ?_)); all_goals try (first | omega | (refine ⟨?_, ?_⟩ <;> omega) | (exact rfl)))
            refine sCallX_one ccc ?_
            simp -dsimp -implicitDefEqProofs only [go_sem, ↓reduceIte, hcm]
            ((repeat' (with_reducible refine And.intro ?_ ?_)); all_goals try (first | omega | (refine ⟨?_, ?_⟩ <;> omega) | (exact rfl)))
            all_goals try (refine ⟨(i + 1, E), ⟨by omega, by omega, jS, by rw [Nat.min_eq_left (by omega)]; exact hnew⟩, by dsimp only; omega, ?_⟩; simp -dsimp -implicitDefEqProofs only [go_sem, ↓reduceIte])
            all_goals (first | omega | (refine ⟨?_, ?_⟩ <;> omega) | (exact rfl) | (simp; done) | trace_state)
          · have hnew := hstep (hrk.1 (of_decide_eq_true hcm))
            clear hend
            generalize (E.set j E[j - 1]).set (j - 1) E[j] = F at *
            generalize E[j] = a at *
            generalize E[j - 1] = b at *
            generalize cmpIt a b = z at *
            simp -dsimp -implicitDefEqProofs only [pick_nil, pick_cons, look_nil, look_cons, dropB_nil, dropB_cons, inD_nil, inD_cons, inE_nil, inE_cons, or_t_l, or_f_l, Nat.reduceBEq, Nat.reduceDiv, Nat.reduceAdd, beq_self_eq_true, uq0, uq1, ↓reduceIte, Nat.reduceEqDiff, uq2, uq3]
            simp -dsimp -implicitDefEqProofs only [go_sem, ↓reduceIte, d0]
            refine Later.draw mixed rfl ?_
            simp -dsimp -implicitDefEqProofs only [go_sem, ↓reduceIte, d0, gj, gj2, hp]
            ((repeat' (with_reducible refine And.intro ?_ ?_)); all_goals try (first | omega | (refine ⟨?_, ?_⟩ <;> omega) | (exact rfl)))
            all_goals try simp -dsimp -implicitDefEqProofs only [go_sem, ↓reduceIte, gj, gj2, hp]
            ((repeat' (with_reducible refine And.intro ?_ ?_)); all_goals try (first | omega | (refine ⟨?_, ?_⟩ <;> omega) | (exact rfl)))
            refine sCallX_one ccc ?_
            simp -dsimp -implicitDefEqProofs only [go_sem, ↓reduceIte, hcm]
            ((repeat' (with_reducible refine And.intro ?_ ?_)); all_goals try (first | omega | (refine ⟨?_, ?_⟩ <;> omega) | (exact rfl)))
            refine Later.draw mixed rfl ?_
            simp -dsimp -implicitDefEqProofs only [go_sem, ↓reduceIte, gj, gj2, hp, gj3]
            ((repeat' (with_reducible refine And.intro ?_ ?_)); all_goals try (first | omega | (refine ⟨?_, ?_⟩ <;> omega) | (exact rfl)))
            all_goals try simp -dsimp -implicitDefEqProofs only [go_sem, ↓reduceIte, gj, gj2, hp, gj3]
            ((repeat' (with_reducible refine And.intro ?_ ?_)); all_goals try (first | omega | (refine ⟨?_, ?_⟩ <;> omega) | (exact rfl)))
            refine ⟨(j - 1, F), ⟨by dsimp only; omega, hsame, hnew⟩, by dsimp only; omega, ?_⟩
            dsimp only
            rw [hms]
            have e3 : ((j - 1 : Nat) : Int) = (j : Int) - 1 := by omega
            rw [e3]
            simp -dsimp -implicitDefEqProofs only [go_sem, ↓reduceIte]
            all_goals first | exact ⟨rfl, rfl⟩ | (first | omega | (refine ⟨?_, ?_⟩ <;> omega) | (exact rfl) | (simp; done) | trace_state)
set_option maxHeartbeats 4000000 in
theorem vc_stable (m : MkM) (t : List (List Int)) (r : Int) (os : List ItM) (h20 : os.length ≤ 20) (hok : ∀ x, x ∈ os → okIx r x) (Q : Post)
    (hQ : ∀ D ts, Same os D → srt r D os.length → Q .normal ts [(1500020000, .row 0 ⟨3, true⟩ true (D.map eIt)), (1500000020, .row 0 ⟨3, true⟩ true []), (1500000002, .box 0 [eI m.chambers, eI m.depths, eI m.step, eI m.same, eI m.least, eIss t])]) :
    ∀ c, Tryz.f100.body = some c → vc Tryz.prog 63 c (argsE 0 [.ref 1500020000 0 0 os.length, eI os.length, .clo 62 []])
      [(1500000020, .row 0 ⟨3, true⟩ true []), (1500020000, .row 0 ⟨3, true⟩ true (os.map eIt)), (1500000002, .box 0 [eI m.chambers, eI m.depths, eI m.step, eI m.same, eI m.least, eIss t])] Q := by
  intro c hc
  obtain rfl := (Option.some.inj hc).symm
  have hins := vc_ins m t r os h20 hok
  rcases hd : decide ((20 : Int) ≤ os.length) with _ | _
  · have dl : decide ((20 : Int) < os.length) = false := by have := of_decide_eq_false hd; exact decide_eq_false (by omega)
    simp -dsimp -implicitDefEqProofs only [go_sem, ↓reduceIte]
    refine Later.up [0, 1, 2, 6] [18] [1500020000] 0 (fun _ => True) (fun i => [(7, eI 0), (8, eI 20)]) (fun i => [(1500020000, .row 0 ⟨3, true⟩ true (os.map eIt))]) trivial ?_ rfl (fun i hi _ => absurd hi (Nat.not_lt_zero _)) (fun _ => ?_)
    · simp -dsimp -implicitDefEqProofs only [go_sem, ↓reduceIte]
    simp -dsimp -implicitDefEqProofs only [pick_nil, pick_cons, look_nil, look_cons, dropB_nil, dropB_cons, inD_nil, inD_cons, inE_nil, inE_cons, or_t_l, or_f_l, Nat.reduceBEq, Nat.reduceDiv, Nat.reduceAdd, beq_self_eq_true, uq0, uq1, ↓reduceIte, Nat.reduceEqDiff, uq2, uq3]
    simp -dsimp -implicitDefEqProofs only [go_sem, ↓reduceIte, hd]
    refine sCallT_inl 620000 53 [] Tryz.func130 rfl rfl rfl rfl rfl (by exact of_decide_eq_true rfl) ⟨?_, ?_⟩
    · simp -dsimp -implicitDefEqProofs only [go_sem, ↓reduceIte]
    simp -dsimp -implicitDefEqProofs only [lowP_nil, lowP_cons, inF_nil, inF_cons, rnsM_nil, rnsM_cons, rnsL_nil, rnsL_cons, rnsA_nil, rnsA_cons, rl_eq, rnA_ref, rnA_ptr, rnA_agg, rnA_arr, rnA_val, rnA_e0, rnA_clo, rnL_nil, rnL_cons, rnB_box, rnB_row, rnB_gone, rnM_nil, rnM_cons, Nat.reduceLT, decide_true, decide_false, Bool.true_and, Bool.not_false, Bool.not_true, Bool.and_false, Nat.reduceBEq, uq1, beq_self_eq_true, Bool.true_or, ↓reduceIte, Nat.reduceEqDiff, Nat.reduceAdd, Bool.and_true]
    refine hins _ ?_ _ rfl
    intro D ts hS hs
    simp -dsimp -implicitDefEqProofs only [go_sem, ↓reduceIte]
    refine Later.up [0, 1, 2] [43, 60] [] 0 (fun _ => True) (fun i => [(6, eI 20)]) (fun i => []) trivial ?_ rfl (fun i hi _ => absurd hi (Nat.not_lt_zero _)) (fun _ => ?_)
    · simp -dsimp -implicitDefEqProofs only [go_sem, ↓reduceIte]
    simp -dsimp -implicitDefEqProofs only [pick_nil, pick_cons, look_nil, look_cons, dropB_nil, dropB_cons, inD_nil, inD_cons, inE_nil, inE_cons, or_t_l, or_f_l, Nat.reduceBEq, Nat.reduceDiv, Nat.reduceAdd, beq_self_eq_true, uq0, uq1, ↓reduceIte, Nat.reduceEqDiff, uq2, uq3]
    simp -dsimp -implicitDefEqProofs only [go_sem, ↓reduceIte, dl]
    exact hQ D _ hS hs
  · have he : os.length = 20 := by have := of_decide_eq_true hd; omega
    have hl : (os.length : Int) = 20 := by omega
    have h20 : Int.tdiv 20 1 = 20 := rfl
    simp -dsimp -implicitDefEqProofs only [go_sem, ↓reduceIte]
    refine Later.lp [0, 1, 2, 6] [18] [1500020000] (fun x : Nat × List ItM => (x.1 = 0 ∧ x.2 = os) ∨ (x.1 = 1 ∧ Same os x.2 ∧ srt r x.2 os.length)) (fun x => [(7, eI (20 * x.1)), (8, eI (20 + 20 * x.1))]) (fun x => [(1500020000, .row 0 ⟨3, true⟩ true (x.2.map eIt))]) (fun x => 1 - x.1) (0, os) (.inl ⟨rfl, rfl⟩) ?_ rfl (fun x hI => ?_)
    · simp -dsimp -implicitDefEqProofs only [go_sem, ↓reduceIte]
      all_goals first | exact rfl | exact ⟨rfl, rfl⟩
    · obtain ⟨k, D⟩ := x
      rcases hI with ⟨hk, hD⟩ | ⟨hk, hS, hs⟩
      · dsimp only at hk hD ⊢
        subst hk; subst hD
        simp -dsimp -implicitDefEqProofs only [pick_nil, pick_cons, look_nil, look_cons, dropB_nil, dropB_cons, inD_nil, inD_cons, inE_nil, inE_cons, or_t_l, or_f_l, Nat.reduceBEq, Nat.reduceDiv, Nat.reduceAdd, beq_self_eq_true, uq0, uq1, ↓reduceIte, Nat.reduceEqDiff, uq2, uq3]
        simp -dsimp -implicitDefEqProofs only [go_sem, ↓reduceIte, Int.mul_zero, Int.add_zero, hd]
        refine sCallT_inl 620000 53 [] Tryz.func130 rfl rfl rfl rfl rfl (by exact of_decide_eq_true rfl) ⟨?_, ?_⟩
        · simp -dsimp -implicitDefEqProofs only [go_sem, ↓reduceIte]
        rw [← hl]
        simp -dsimp -implicitDefEqProofs only [lowP_nil, lowP_cons, inF_nil, inF_cons, rnsM_nil, rnsM_cons, rnsL_nil, rnsL_cons, rnsA_nil, rnsA_cons, rl_eq, rnA_ref, rnA_ptr, rnA_agg, rnA_arr, rnA_val, rnA_e0, rnA_clo, rnL_nil, rnL_cons, rnB_box, rnB_row, rnB_gone, rnM_nil, rnM_cons, Nat.reduceLT, decide_true, decide_false, Bool.true_and, Bool.not_false, Bool.not_true, Bool.and_false, Nat.reduceBEq, uq1, beq_self_eq_true, Bool.true_or, ↓reduceIte, Nat.reduceEqDiff, Nat.reduceAdd, Bool.and_true]
        refine hins _ ?_ _ rfl
        intro E ts hS hs
        simp -dsimp -implicitDefEqProofs only [go_sem, ↓reduceIte]
        ((repeat' (with_reducible refine And.intro ?_ ?_)); all_goals try (first | omega | (refine ⟨?_, ?_⟩ <;> omega) | (exact rfl)))
        refine ⟨(1, E), .inr ⟨rfl, hS, hs⟩, by dsimp only; omega, ?_⟩
        simp -dsimp -implicitDefEqProofs only [go_sem, ↓reduceIte]
        all_goals first | exact rfl | exact ⟨rfl, rfl⟩ | (simp [hl]; done) | trace_state
      · dsimp only at hk hS hs ⊢
        subst hk
        have hDl := hS.len
        have d40 : decide ((20 : Int) + 20 * 1 ≤ os.length) = false := decide_eq_false (by omega)
        have d21 : decide ((20 : Int) * 1 + 1 < os.length) = false := decide_eq_false (by omega)
        simp -dsimp -implicitDefEqProofs only [pick_nil, pick_cons, look_nil, look_cons, dropB_nil, dropB_cons, inD_nil, inD_cons, inE_nil, inE_cons, or_t_l, or_f_l, Nat.reduceBEq, Nat.reduceDiv, Nat.reduceAdd, beq_self_eq_true, uq0, uq1, ↓reduceIte, Nat.reduceEqDiff, uq2, uq3]
        simp -dsimp -implicitDefEqProofs only [go_sem, ↓reduceIte, d40, Int.natCast_one]
        ((repeat' (with_reducible refine And.intro ?_ ?_)); all_goals try (first | omega | (refine ⟨?_, ?_⟩ <;> omega) | (exact rfl)))
        refine sCallT_inl 620000 53 [] Tryz.func130 rfl rfl rfl rfl rfl (by exact of_decide_eq_true rfl) ?_
        simp -dsimp -implicitDefEqProofs only [go_sem, ↓reduceIte]
        ((repeat' (with_reducible refine And.intro ?_ ?_)); all_goals try (first | omega | (refine ⟨?_, ?_⟩ <;> omega) | (exact rfl)))
        refine Later.up [0, 1, 2, 3] [32] [] 0 (fun _ => True) (fun i => [(8, eI (20 * 1 + 1))]) (fun i => []) trivial ?_ rfl (fun i hi _ => absurd hi (Nat.not_lt_zero _)) (fun _ => ?_)
        · simp -dsimp -implicitDefEqProofs only [go_sem, ↓reduceIte]
        simp -dsimp -implicitDefEqProofs only [pick_nil, pick_cons, look_nil, look_cons, dropB_nil, dropB_cons, inD_nil, inD_cons, inE_nil, inE_cons, or_t_l, or_f_l, Nat.reduceBEq, Nat.reduceDiv, Nat.reduceAdd, beq_self_eq_true, uq0, uq1, ↓reduceIte, Nat.reduceEqDiff, uq2, uq3]
        simp -dsimp -implicitDefEqProofs only [go_sem, ↓reduceIte, d21]
        refine Later.up [0, 1, 2] [43, 60] [] 0 (fun _ => True) (fun i => [(6, eI 20)]) (fun i => []) trivial ?_ rfl (fun i hi _ => absurd hi (Nat.not_lt_zero _)) (fun _ => ?_)
        · simp -dsimp -implicitDefEqProofs only [go_sem, ↓reduceIte]
        have d20 : decide ((20 : Int) < os.length) = false := decide_eq_false (by omega)
        simp -dsimp -implicitDefEqProofs only [pick_nil, pick_cons, look_nil, look_cons, dropB_nil, dropB_cons, inD_nil, inD_cons, inE_nil, inE_cons, or_t_l, or_f_l, Nat.reduceBEq, Nat.reduceDiv, Nat.reduceAdd, beq_self_eq_true, uq0, uq1, ↓reduceIte, Nat.reduceEqDiff, uq2, uq3]
        simp -dsimp -implicitDefEqProofs only [go_sem, ↓reduceIte, d20]
        exact hQ D _ hS hs
end Go.Vc


set_option linter.unusedVariables false
set_option linter.unusedSimpArgs false
set_option linter.unnecessarySimpa false
namespace Go.Vc
open Go.Proofs
set_option maxRecDepth 100000
def cpyF (r i : Int) (x : ItM) : Int := if rkIt r x = i then x.copies else 0
def cpy (r i : Int) (os : List ItM) : Int := (os.map (cpyF r i)).sum
def itAt (r : Nat) (i : Nat) (c : Int) : ItM := if i < r then ⟨true, i, c⟩ else ⟨false, (i : Int) - r, c⟩
def nrm (r : Nat) (os : List ItM) : Nat → List ItM
  | 0 => []
  | n + 1 => if cpy r n os > 0 then nrm r os n ++ [itAt r n (cpy r n os)] else nrm r os n
theorem cpy_nil (r i : Int) : cpy r i [] = 0 := rfl
theorem cpy_snoc (r i : Int) (os : List ItM) (x : ItM) : cpy r i (os ++ [x]) = cpy r i os + cpyF r i x := by
  simp [cpy]
theorem cpy_cons (r i : Int) (os : List ItM) (x : ItM) : cpy r i (x :: os) = cpyF r i x + cpy r i os := by
  simp [cpy]
def okCp (x : ItM) : Prop := 1 ≤ x.copies ∧ x.copies ≤ 50
theorem cpyF_in {r i : Int} {x : ItM} (h : okCp x) : 0 ≤ cpyF r i x ∧ cpyF r i x ≤ 50 := by
  obtain ⟨h1, h2⟩ := h
  unfold cpyF
  split <;> omega
theorem cpy_in (r i : Int) : ∀ (os : List ItM), (∀ x, x ∈ os → okCp x) → 0 ≤ cpy r i os ∧ cpy r i os ≤ 50 * os.length
  | [], _ => by simp [cpy_nil]
  | x :: r', h => by
    have h1 := cpyF_in (r := r) (i := i) (h x (List.mem_cons_self ..))
    have h2 := cpy_in r i r' fun y hy => h y (List.mem_cons_of_mem _ hy)
    rw [cpy_cons, List.length_cons]
    omega
theorem cpy_no {r i : Int} : ∀ {os : List ItM}, (∀ x, x ∈ os → rkIt r x ≠ i) → cpy r i os = 0
  | [], _ => rfl
  | x :: r', h => by
    rw [cpy_cons, cpy_no fun y hy => h y (List.mem_cons_of_mem _ hy), cpyF, if_neg (h x (List.mem_cons_self ..))]; rfl
theorem nrm_congr {r : Nat} {A B : List ItM} : ∀ n, (∀ i : Nat, i < n → cpy r i A = cpy r i B) → nrm r A n = nrm r B n
  | 0, _ => rfl
  | n + 1, h => by
    rw [nrm, nrm, h n (Nat.lt_succ_self n), nrm_congr n fun i hi => h i (by omega)]
theorem nrm_more {r : Nat} {A : List ItM} {k : Nat} : ∀ n, k ≤ n → (∀ i : Nat, k ≤ i → i < n → cpy r i A = 0) → nrm r A n = nrm r A k
  | 0, h, _ => by rw [show k = 0 by omega]
  | n + 1, h, h0 => by
    by_cases e : k = n + 1
    · rw [e]
    · rw [nrm, h0 n (by omega) (by omega), if_neg (by omega)]
      exact nrm_more n (by omega) fun i h1 h2 => h0 i h1 (by omega)
theorem itAt_rk (r i : Nat) (c : Int) : rkIt r (itAt r i c) = i := by
  unfold rkIt itAt
  split
  · rfl
  · show (if false = true then _ else (r : Int) + ((i : Int) - r)) = _
    rw [if_neg (by decide)]; omega
theorem itAt_ix {r i : Nat} (c : Int) (h : i ≤ 1000) : okIx r (itAt r i c) := by
  unfold okIx itAt
  split <;> simp <;> omega
theorem itAt_of {r : Nat} {x : ItM} {i : Nat} (hx : okIx r x) (h : rkIt r x = i) : x = itAt r i x.copies := by
  obtain ⟨⟨h1, h2⟩, h3⟩ := hx
  unfold rkIt at h
  cases x with
  | mk k ix c =>
    cases k with
    | true =>
      have := h3 rfl
      simp at h this h1
      unfold itAt
      rw [if_pos (by omega), ← h]
    | false =>
      simp at h h1
      unfold itAt
      rw [if_neg (by omega)]
      have e : (i : Int) - r = ix := by omega
      rw [e]
theorem nrm_mem {r : Nat} {A : List ItM} : ∀ {n : Nat} {y : ItM}, y ∈ nrm r A n → ∃ i, i < n ∧ y = itAt r i (cpy r i A) ∧ 0 < cpy r i A
  | 0, y, h => by cases h
  | n + 1, y, h => by
    rw [nrm] at h
    split at h
    · rename_i hp
      rcases List.mem_append.1 h with h | h
      · obtain ⟨i, h1, h2⟩ := nrm_mem h
        exact ⟨i, by omega, h2⟩
      · rw [List.mem_singleton] at h
        exact ⟨n, Nat.lt_succ_self n, h, hp⟩
    · obtain ⟨i, h1, h2⟩ := nrm_mem h
      exact ⟨i, by omega, h2⟩
def mstep (out : List ItM) (x : ItM) : List ItM :=
  if 0 < out.length ∧ cmpIt (out.getD (out.length - 1) default) x = 0 then
    out.set (out.length - 1) ⟨(out.getD (out.length - 1) default).key, (out.getD (out.length - 1) default).index, (out.getD (out.length - 1) default).copies + x.copies⟩
  else out ++ [x]
def mrgS (D : List ItM) : Nat → List ItM
  | 0 => []
  | i + 1 => mstep (mrgS D i) (D.getD i default)
theorem mstep_len (out : List ItM) (x : ItM) : (mstep out x).length ≤ out.length + 1 := by
  unfold mstep
  split <;> simp
theorem mrgS_len (D : List ItM) : ∀ i, (mrgS D i).length ≤ i
  | 0 => Nat.le_refl _
  | i + 1 => Nat.le_trans (mstep_len _ _) (by have := mrgS_len D i; omega)
theorem mrg_step {r N : Nat} {A : List ItM} {x : ItM} {k : Nat} (hN : N ≤ 1000) (hx : okIx r x) (hc : okCp x) (hk : rkIt r x = k) (hkN : k < N) (hA : ∀ y, y ∈ A → okIx r y ∧ okCp y ∧ rkIt r y ≤ k) : mstep (nrm r A N) x = nrm r (A ++ [x]) N := by
  have hxc := hc.1
  have z1 : ∀ i : Nat, k + 1 ≤ i → i < N → cpy r i A = 0 := fun i h1 h2 => cpy_no fun y hy => by have := (hA y hy).2.2; omega
  have e1 : nrm r A N = nrm r A (k + 1) := nrm_more N (by omega) z1
  have hsame : ∀ i : Nat, i < k → cpy r i (A ++ [x]) = cpy r i A := fun i hi => by
    rw [cpy_snoc, cpyF, if_neg (by omega)]; omega
  have hkk : cpy r k (A ++ [x]) = cpy r k A + x.copies := by rw [cpy_snoc, cpyF, if_pos hk]
  have z2 : ∀ i : Nat, k + 1 ≤ i → i < N → cpy r i (A ++ [x]) = 0 := fun i h1 h2 => by
    rw [cpy_snoc, z1 i h1 h2, cpyF, if_neg (by omega)]; rfl
  have hge := (cpy_in r k A fun y hy => (hA y hy).2.1).1
  have e2 : nrm r (A ++ [x]) N = nrm r A k ++ [itAt r k (cpy r k A + x.copies)] := by
    rw [nrm_more N (show k + 1 ≤ N by omega) z2, nrm, hkk, if_pos (by omega), nrm_congr k hsame]
  rw [e1, e2, nrm]
  by_cases h0 : cpy r k A > 0
  · rw [if_pos h0]
    have hl : (nrm r A k ++ [itAt r k (cpy r k A)]).length - 1 = (nrm r A k).length := by simp
    have hg : (nrm r A k ++ [itAt r k (cpy r k A)]).getD (nrm r A k).length default = itAt r k (cpy r k A) := by
      simp [List.getD_eq_getElem?_getD]
    unfold mstep
    rw [hl, hg, if_pos ⟨by simp, (cmp_rk (itAt_ix _ (by omega)) hx).2.2 (by rw [itAt_rk, hk])⟩, List.set_append_right _ _ (Nat.le_refl _), Nat.sub_self]
    congr 1
    unfold itAt
    split <;> rfl
  · rw [if_neg h0]
    have hc0 : cpy r k A = 0 := by omega
    rw [hc0, Int.zero_add, ← itAt_of hx hk]
    unfold mstep
    rw [if_neg]
    rintro ⟨hl, hz⟩
    have hm : (nrm r A k).getD ((nrm r A k).length - 1) default ∈ nrm r A k := by
      rw [List.getD_eq_getElem?_getD, List.getElem?_eq_getElem (by omega)]
      exact List.getElem_mem _
    obtain ⟨i, h1, h2, _⟩ := nrm_mem hm
    rw [h2] at hz
    have := (cmp_rk (itAt_ix _ (by omega)) hx).2.1 hz
    rw [itAt_rk, hk] at this
    omega
theorem rk_in {r : Int} {x : ItM} (hx : okIx r x) (h : 0 ≤ r) : 0 ≤ rkIt r x := by
  obtain ⟨⟨h1, h2⟩, _⟩ := hx
  unfold rkIt
  split <;> omega
theorem mrg_all {r N : Nat} {D : List ItM} (hN : N ≤ 1000) (hD : ∀ x, x ∈ D → okIx r x ∧ okCp x ∧ rkIt r x < N) (hs : srt r D D.length) : ∀ i, i ≤ D.length → mrgS D i = nrm r (D.take i) N
  | 0, _ => by
    have : ∀ n, nrm r [] n = [] := by
      intro n
      induction n with
      | zero => rfl
      | succ n ih => rw [nrm, cpy_nil, if_neg (by omega), ih]
    simp [mrgS, this]
  | i + 1, hi => by
    have hi' : i < D.length := by omega
    have hm := hD _ (List.getElem_mem hi')
    have hr0 := rk_in hm.1 (Int.natCast_nonneg r)
    obtain ⟨k, hk⟩ : ∃ k : Nat, rkIt r D[i] = k := ⟨(rkIt r D[i]).toNat, by omega⟩
    rw [mrgS, mrg_all hN hD hs i (by omega), getD_get hi', List.take_succ_eq_append_getElem hi']
    refine mrg_step hN hm.1 hm.2.1 hk (by omega) fun y hy => ?_
    obtain ⟨p, hp, rfl⟩ := List.getElem_of_mem hy
    have hp2 : p < i := by rw [List.length_take] at hp; omega
    rw [List.getElem_take]
    have hy2 := hD _ (List.getElem_mem (show p < D.length by omega))
    refine ⟨hy2.1, hy2.2.1, ?_⟩
    have := hs p i hp2 hi'
    rw [getD_get hi', getD_get (show p < D.length by omega)] at this
    omega
def wide (t : List (List Int)) : Nat := t.length + (t.getD 0 []).length
def few (r : Nat) (os : List ItM) (n : Nat) : Bool := (List.range n).all fun i => decide (cpy r (i : Int) os ≤ 50)
def normalO (m : MkM) (t : List (List Int)) (os : List ItM) : List ItM × Int :=
  if ordCode m t os = 0 then (if few t.length os (wide t) = true then (nrm t.length os (wide t), 0) else ([], 3)) else ([], ordCode m t os)
theorem ord_facts {m : MkM} {t : List (List Int)} {os : List ItM} (h : ordCode m t os = 0) : wide t ≤ 22 ∧ os.length ≤ 20 ∧ ∀ x, x ∈ os → okIx t.length x ∧ okCp x ∧ rkIt t.length x < wide t := by
  obtain ⟨k1, k2⟩ := ordCode_zero h
  obtain ⟨n1, n2, n3, n4, n5⟩ := isSy_num k1
  have k2' := k2
  simp only [isOrd, Bool.and_eq_true, List.all_eq_true, decide_eq_true_eq] at k2'
  refine ⟨by unfold wide; omega, k2'.2, fun x hx => ?_⟩
  have hi := k2'.1 x hx
  simp only [itOk, isIn, Bool.and_eq_true, decide_eq_true_eq] at hi
  unfold okIx okCp rkIt wide
  generalize (t.getD 0 []).length = dd at *
  rcases hk : x.key with _ | _
  · rw [hk] at hi
    simp at hi ⊢
    omega
  · rw [hk] at hi
    simp at hi ⊢
    omega
theorem nrm_len {m : MkM} {t : List (List Int)} {os D : List ItM} (h : ordCode m t os = 0) (hS : Same os D) (hs : srt t.length D os.length) : mrgS D D.length = nrm t.length os (wide t) ∧ (nrm t.length os (wide t)).length ≤ 20 := by
  obtain ⟨h1, h2, h3⟩ := ord_facts h
  have hl := hS.len
  have e := mrg_all (N := wide t) (by omega) (fun x hx => h3 x (hS.mem x hx)) (by rw [hl]; exact hs) D.length (Nat.le_refl _)
  rw [List.take_length, nrm_congr (B := os) (wide t) fun i _ => hS.sum _] at e
  refine ⟨e, ?_⟩
  rw [← e]
  have := mrgS_len D D.length
  omega
theorem isOrd_nrm {m : MkM} {t : List (List Int)} {os : List ItM} (h : ordCode m t os = 0) (hl : (nrm t.length os (wide t)).length ≤ 20) : isOrd t (nrm t.length os (wide t)) = few t.length os (wide t) := by
  obtain ⟨h1, h2, h3⟩ := ord_facts h
  rw [isOrd, decide_eq_true hl, Bool.and_true]
  rcases hf : few t.length os (wide t) with _ | _
  · rw [List.all_eq_false]
    rw [few, List.all_eq_false] at hf
    obtain ⟨i, hi, hc⟩ := hf
    have hi' := List.mem_range.1 hi
    have hc' : ¬ cpy t.length i os ≤ 50 := by simpa using hc
    refine ⟨itAt t.length i (cpy t.length i os), ?_, ?_⟩
    · have key : ∀ n, i < n → itAt t.length i (cpy t.length i os) ∈ nrm t.length os n := by
        intro n
        induction n with
        | zero => intro h; omega
        | succ n ih =>
          intro hn
          rw [nrm]
          by_cases e : i = n
          · subst e
            rw [if_pos (by omega)]; simp
          · have := ih (by omega)
            split
            · exact List.mem_append_left _ this
            · exact this
      exact key _ hi'
    · simp only [itOk, isIn, Bool.and_eq_true, decide_eq_true_eq]
      unfold itAt
      split <;> simp <;> omega
  · rw [List.all_eq_true]
    rw [few, List.all_eq_true] at hf
    intro x hx
    obtain ⟨i, hi, rfl, hp⟩ := nrm_mem hx
    have hc := hf i (List.mem_range.2 hi)
    have hc' : cpy t.length i os ≤ 50 := by simpa using hc
    simp only [itOk, isIn, Bool.and_eq_true, decide_eq_true_eq]
    unfold wide at hi
    generalize cpy t.length i os = cc at *
    generalize (t.getD 0 []).length = dd at *
    unfold itAt
    split <;> simp <;> omega
end Go.Vc


set_option linter.unusedVariables false
set_option linter.unusedSimpArgs false
set_option linter.unnecessarySimpa false
namespace Go.Vc
open Go.Proofs
set_option maxRecDepth 100000
end Go.Vc


set_option linter.unusedVariables false
set_option linter.unusedSimpArgs false
set_option linter.unnecessarySimpa false
namespace Go.Vc
open Go.Proofs
set_option maxRecDepth 100000
theorem nrm_facts {r n : Nat} {A : List ItM} (hn : n ≤ 1000) (hA : ∀ x, x ∈ A → okCp x) (hl : A.length ≤ 20) : ∀ y, y ∈ nrm r A n → okIx r y ∧ 0 ≤ y.copies ∧ y.copies ≤ 1000 := by
  intro y hy
  obtain ⟨i, h1, h2, h3⟩ := nrm_mem hy
  have hc := cpy_in r i A hA
  have e : y.copies = cpy r i A := by rw [h2]; unfold itAt; split <;> rfl
  refine ⟨by rw [h2]; exact itAt_ix _ (by omega), by omega, by omega⟩
set_option maxHeartbeats 4000000 in
theorem c_iNormal (m : MkM) (t : List (List Int)) (os : List ItM) (h : t.length ≤ 1048576) (h2 : ∀ x ∈ t, x.length ≤ 1048576) (h3 : os.length ≤ 1048576) : Fn Tryz.prog 20 [eSy m t, eIts os] true (· = .tup [eIts (normalO m t os).1, eI (normalO m t os).2]) := by
  refine Fn.of_vcN 64 [.tmp 4, .tmp 5] Tryz.func20 rfl rfl rfl rfl rfl (of_decide_eq_true rfl) ?_
  have hcode := c_orderCode m t os h h2 h3
  rcases hb : (ordCode m t os == 0) with _ | _
  · have hF : normalO m t os = ([], ordCode m t os) := by rw [normalO, if_neg (by simpa using hb)]
    have hb2 : (ordCode m t os != 0) = true := by simp [bne, hb]
    rw [hF]
    generalize ordCode m t os = c at *
    simp -dsimp -implicitDefEqProofs only [go_sem, ↓reduceIte]
    (refine sCallT_one (hcode) ?_; try simp -dsimp -implicitDefEqProofs only [go_sem, ↓reduceIte, *])
    all_goals try simp -dsimp -implicitDefEqProofs only [go_sem, ↓reduceIte, hb, hb2]
    all_goals (first | omega | (refine ⟨?_, ?_⟩ <;> omega) | (exact rfl) | (simp; done) | trace_state)
  have hb0 : ordCode m t os = 0 := by simpa using hb
  obtain ⟨f1, f2, f3⟩ := ord_facts hb0
  obtain ⟨k1, k2⟩ := ordCode_zero hb0
  obtain ⟨n1, n2, n3, n4, n5⟩ := isSy_num k1
  have hF : normalO m t os = if few t.length os (wide t) = true then (nrm t.length os (wide t), 0) else ([], 3) := by rw [normalO, if_pos hb0]
  rw [hF]
  clear hF
  rw [hb0] at hcode
  have hst := vc_stable m t t.length os f2 fun x hx => (f3 x hx).1
  have hio := isOrd_nrm (m := m) (t := t) (os := os) hb0
  have hord := fun os' h' => c_iisOrder m t os' (by omega) h h2 h'
  simp -dsimp -implicitDefEqProofs only [go_sem, ↓reduceIte]
  (refine sCallT_one (hcode) ?_; try simp -dsimp -implicitDefEqProofs only [go_sem, ↓reduceIte, *])
  refine sCallT_one (c_CloneIt os h3) ?_
  simp -dsimp -implicitDefEqProofs only [go_sem, ↓reduceIte]
  refine sCallT_inl 600000 9 [] Tryz.func61 rfl rfl rfl rfl rfl (by exact of_decide_eq_true rfl) ?_
  simp -dsimp -implicitDefEqProofs only [go_sem, ↓reduceIte]
  refine sCallT_inl 610000 63 [] Tryz.func100 rfl rfl rfl rfl rfl (by exact of_decide_eq_true rfl) ⟨?_, ?_⟩
  · simp -dsimp -implicitDefEqProofs only [go_sem, ↓reduceIte]
  simp -dsimp -implicitDefEqProofs only [lowP_nil, lowP_cons, inF_nil, inF_cons, rnsM_nil, rnsM_cons, rnsL_nil, rnsL_cons, rnsA_nil, rnsA_cons, rl_eq, rnA_ref, rnA_ptr, rnA_agg, rnA_arr, rnA_val, rnA_e0, rnA_clo, rnL_nil, rnL_cons, rnB_box, rnB_row, rnB_gone, rnM_nil, rnM_cons, Nat.reduceLT, decide_true, decide_false, Bool.true_and, Bool.not_false, Bool.not_true, Bool.and_false, Nat.reduceBEq, uq1, beq_self_eq_true, Bool.true_or, ↓reduceIte, Nat.reduceEqDiff, Nat.reduceAdd, Bool.and_true]
  refine hst _ ?_ _ rfl
  intro D ts hS hs
  have hDl := hS.len
  have hml := mrgS_len D
  obtain ⟨hmrg, hnl⟩ := nrm_len hb0 hS hs
  have hall := mrg_all (r := t.length) (N := wide t) (D := D) (by omega) (fun x hx => f3 x (hS.mem x hx)) (by rw [hDl]; exact hs)
  have hio := hio hnl
  have hord := hord (nrm t.length os (wide t)) (by omega)
  rw [hio] at hord
  clear hst hio hs
  simp -dsimp -implicitDefEqProofs only [go_sem, ↓reduceIte]
  refine Later.up [2, 23, 24] [10, 30, 40, 56, 57] [20] os.length (fun _ => True) (fun i => [(8, .ref 20 0 0 (mrgS D i).length), (25, eI i)]) (fun i => [(20, .row 0 ⟨3, true⟩ true ((mrgS D i).map eIt))]) trivial ?_ rfl (fun i hi _ => ?_) (fun _ => ?_)
  · simp -dsimp -implicitDefEqProofs only [go_sem, ↓reduceIte]
    simp [mrgS]
  · have hi2 : i < D.length := by omega
    have gi := get_some hi2
    have hx := f3 _ (hS.mem _ (List.getElem_mem hi2))
    have hl := hml i
    have hsucc : mrgS D (i + 1) = mstep (mrgS D i) D[i] := by rw [mrgS, getD_get hi2]
    have hfacts : ∀ y, y ∈ mrgS D i → okIx t.length y ∧ 0 ≤ y.copies ∧ y.copies ≤ 1000 := by
      rw [hall i (by omega)]
      exact nrm_facts (by omega) (fun x hx => (f3 x (hS.mem x (List.mem_of_mem_take hx))).2.1) (by simp; omega)
    rw [hsucc]
    clear hsucc hall hml hmrg
    generalize D[i] = x at *
    generalize mrgS D i = q at *
    obtain ⟨hx1, ⟨hx2, hx3⟩, hx4⟩ := hx
    rcases hq : decide ((q.length : Int) > 0) with _ | _
    · have hq' : ¬ 0 < q.length := by have := of_decide_eq_false hq; omega
      have hm : mstep q x = q ++ [x] := by rw [mstep, if_neg fun c => hq' c.1]
      rw [hm]
      simp -dsimp -implicitDefEqProofs only [pick_nil, pick_cons, look_nil, look_cons, dropB_nil, dropB_cons, inD_nil, inD_cons, inE_nil, inE_cons, or_t_l, or_f_l, Nat.reduceBEq, Nat.reduceDiv, Nat.reduceAdd, beq_self_eq_true, uq0, uq1, ↓reduceIte, Nat.reduceEqDiff, uq2, uq3]
      simp -dsimp -implicitDefEqProofs only [go_sem, ↓reduceIte, lt_len hi, gi, hq]
      ((repeat' (with_reducible refine And.intro ?_ ?_)); all_goals try (first | omega | (refine ⟨?_, ?_⟩ <;> omega) | (exact rfl)))
      all_goals try simp -dsimp -implicitDefEqProofs only [go_sem, ↓reduceIte, gi, hq]
      ((repeat' (with_reducible refine And.intro ?_ ?_)); all_goals try (first | omega | (refine ⟨?_, ?_⟩ <;> omega) | (exact rfl)))
      refine Later.draw mixed rfl ?_
      simp -dsimp -implicitDefEqProofs only [go_sem, ↓reduceIte, hq]
      ((repeat' (with_reducible refine And.intro ?_ ?_)); all_goals try (first | omega | (refine ⟨?_, ?_⟩ <;> omega) | (exact rfl)))
      all_goals (first | omega | (refine ⟨?_, ?_⟩ <;> omega) | (exact rfl) | (simp; done) | trace_state)
    · have hq' : 0 < q.length := by have := of_decide_eq_true hq; omega
      have hq1 : q.length - 1 < q.length := by omega
      have gl := get_some hq1
      have hp : ((q.length : Int) - 1).toNat = q.length - 1 := by omega
      have hy := hfacts _ (List.getElem_mem hq1)
      have hgd : q.getD (q.length - 1) default = q[q.length - 1] := getD_get hq1
      have hcmp := c_compareItems hy.1 hx1
      rcases hc : (cmpIt q[q.length - 1] x == 0) with _ | _
      · have hm : mstep q x = q ++ [x] := by rw [mstep, hgd, if_neg fun c => by rw [c.2] at hc; cases hc]
        rw [hm]
        clear hm hgd
        generalize q[q.length - 1] = y at *
        simp -dsimp -implicitDefEqProofs only [pick_nil, pick_cons, look_nil, look_cons, dropB_nil, dropB_cons, inD_nil, inD_cons, inE_nil, inE_cons, or_t_l, or_f_l, Nat.reduceBEq, Nat.reduceDiv, Nat.reduceAdd, beq_self_eq_true, uq0, uq1, ↓reduceIte, Nat.reduceEqDiff, uq2, uq3]
        simp -dsimp -implicitDefEqProofs only [go_sem, ↓reduceIte, lt_len hi, gi, hq]
        ((repeat' (with_reducible refine And.intro ?_ ?_)); all_goals try (first | omega | (refine ⟨?_, ?_⟩ <;> omega) | (exact rfl)))
        all_goals try simp -dsimp -implicitDefEqProofs only [go_sem, ↓reduceIte, gi, hq]
        ((repeat' (with_reducible refine And.intro ?_ ?_)); all_goals try (first | omega | (refine ⟨?_, ?_⟩ <;> omega) | (exact rfl)))
        refine Later.draw mixed rfl ?_
        simp -dsimp -implicitDefEqProofs only [go_sem, ↓reduceIte, hq, hp, gl]
        ((repeat' (with_reducible refine And.intro ?_ ?_)); all_goals try (first | omega | (refine ⟨?_, ?_⟩ <;> omega) | (exact rfl)))
        refine sCallX_one hcmp ?_
        simp -dsimp -implicitDefEqProofs only [go_sem, ↓reduceIte, hc]
        ((repeat' (with_reducible refine And.intro ?_ ?_)); all_goals try (first | omega | (refine ⟨?_, ?_⟩ <;> omega) | (exact rfl)))
        all_goals (first | omega | (refine ⟨?_, ?_⟩ <;> omega) | (exact rfl) | (simp; done) | trace_state)
      · have hm : mstep q x = q.set (q.length - 1) ⟨q[q.length - 1].key, q[q.length - 1].index, q[q.length - 1].copies + x.copies⟩ := by rw [mstep, hgd, if_pos ⟨hq', by simpa using hc⟩]
        rw [hm, List.length_set, List.map_set]
        clear hm hgd
        generalize q[q.length - 1] = y at *
        obtain ⟨hy1, hy2, hy3⟩ := hy
        simp -dsimp -implicitDefEqProofs only [pick_nil, pick_cons, look_nil, look_cons, dropB_nil, dropB_cons, inD_nil, inD_cons, inE_nil, inE_cons, or_t_l, or_f_l, Nat.reduceBEq, Nat.reduceDiv, Nat.reduceAdd, beq_self_eq_true, uq0, uq1, ↓reduceIte, Nat.reduceEqDiff, uq2, uq3]
        simp -dsimp -implicitDefEqProofs only [go_sem, ↓reduceIte, lt_len hi, gi, hq]
        ((repeat' (with_reducible refine And.intro ?_ ?_)); all_goals try (first | omega | (refine ⟨?_, ?_⟩ <;> omega) | (exact rfl)))
        all_goals try simp -dsimp -implicitDefEqProofs only [go_sem, ↓reduceIte, gi, hq]
        ((repeat' (with_reducible refine And.intro ?_ ?_)); all_goals try (first | omega | (refine ⟨?_, ?_⟩ <;> omega) | (exact rfl)))
        refine Later.draw mixed rfl ?_
        simp -dsimp -implicitDefEqProofs only [go_sem, ↓reduceIte, hq, hp, gl]
        ((repeat' (with_reducible refine And.intro ?_ ?_)); all_goals try (first | omega | (refine ⟨?_, ?_⟩ <;> omega) | (exact rfl)))
        refine sCallX_one hcmp ?_
        simp -dsimp -implicitDefEqProofs only [go_sem, ↓reduceIte, hc]
        ((repeat' (with_reducible refine And.intro ?_ ?_)); all_goals try (first | omega | (refine ⟨?_, ?_⟩ <;> omega) | (exact rfl)))
        refine Later.draw mixed rfl ?_
        simp -dsimp -implicitDefEqProofs only [go_sem, ↓reduceIte, hp, gl]
        ((repeat' (with_reducible refine And.intro ?_ ?_)); all_goals try (first | omega | (refine ⟨?_, ?_⟩ <;> omega) | (exact rfl)))
        all_goals try simp -dsimp -implicitDefEqProofs only [go_sem, ↓reduceIte, hp, gl]
        ((repeat' (with_reducible refine And.intro ?_ ?_)); all_goals try (first | omega | (refine ⟨?_, ?_⟩ <;> omega) | (exact rfl)))
        all_goals (first | omega | (refine ⟨?_, ?_⟩ <;> omega) | (exact rfl) | (simp; done) | trace_state)
  · have hl := hml D.length
    rw [← hDl, hmrg]
    clear hmrg hall hml hl hDl
    generalize nrm t.length os (wide t) = q at *
    rcases hf : few t.length os (wide t) with _ | _
    · rw [hf] at hord
      rw [if_neg (by decide)]
      simp -dsimp -implicitDefEqProofs only [pick_nil, pick_cons, look_nil, look_cons, dropB_nil, dropB_cons, inD_nil, inD_cons, inE_nil, inE_cons, or_t_l, or_f_l, Nat.reduceBEq, Nat.reduceDiv, Nat.reduceAdd, beq_self_eq_true, uq0, uq1, ↓reduceIte, Nat.reduceEqDiff, uq2, uq3]
      simp -dsimp -implicitDefEqProofs only [go_sem, ↓reduceIte, nlt_len]
      ((repeat' (with_reducible refine And.intro ?_ ?_)); all_goals try (first | omega | (refine ⟨?_, ?_⟩ <;> omega) | (exact rfl)))
      refine sCallT_one hord ?_
      simp -dsimp -implicitDefEqProofs only [go_sem, ↓reduceIte]
      ((repeat' (with_reducible refine And.intro ?_ ?_)); all_goals try (first | omega | (refine ⟨?_, ?_⟩ <;> omega) | (exact rfl)))
      all_goals (first | omega | (refine ⟨?_, ?_⟩ <;> omega) | (exact rfl) | (simp; done) | trace_state)
    · rw [hf] at hord
      rw [if_pos rfl]
      simp -dsimp -implicitDefEqProofs only [pick_nil, pick_cons, look_nil, look_cons, dropB_nil, dropB_cons, inD_nil, inD_cons, inE_nil, inE_cons, or_t_l, or_f_l, Nat.reduceBEq, Nat.reduceDiv, Nat.reduceAdd, beq_self_eq_true, uq0, uq1, ↓reduceIte, Nat.reduceEqDiff, uq2, uq3]
      simp -dsimp -implicitDefEqProofs only [go_sem, ↓reduceIte, nlt_len]
      ((repeat' (with_reducible refine And.intro ?_ ?_)); all_goals try (first | omega | (refine ⟨?_, ?_⟩ <;> omega) | (exact rfl)))
      refine sCallT_one hord ?_
      simp -dsimp -implicitDefEqProofs only [go_sem, ↓reduceIte]
      ((repeat' (with_reducible refine And.intro ?_ ?_)); all_goals try (first | omega | (refine ⟨?_, ?_⟩ <;> omega) | (exact rfl)))
      all_goals (first | omega | (refine ⟨?_, ?_⟩ <;> omega) | (exact rfl) | (simp; done) | trace_state)
end Go.Vc


set_option linter.unusedVariables false
set_option linter.unusedSimpArgs false
set_option linter.unnecessarySimpa false
namespace Go.Vc
open Go.Proofs
set_option maxRecDepth 100000
attribute [go_sem] Option.map_none Nat.sub_zero
abbrev eY (b : UInt8) : AV := .val (.int .u8 b.toNat)
abbrev eYs (bs : List UInt8) : AV := .arr ⟨1, false⟩ (bs.map eY)
structure Src where
  seed : Int
  pos : Nat
def SrcOk (s : Src) : Prop := 0 ≤ s.seed ∧ s.seed < 2147483647
abbrev srcB (v : Nat) (bs : List UInt8) (s : Src) : Blk := .box v [eYs bs, eI s.pos, eI s.seed]
def nx (bs : List UInt8) (n : Int) (s : Src) : Int × Src :=
  if n ≤ 1 then (0, s) else
    if h : s.pos < bs.length then
      ((if n ≤ 256 ∧ ((s.pos : Int) + 1).tmod 2 = 0 then (bs[s.pos].toNat : Int) else ((s.seed * 48271 + 29).tmod 2147483647).tdiv 31 + (bs[s.pos].toNat : Int)).tmod n, ⟨(s.seed * 48271 + 29).tmod 2147483647, s.pos + 1⟩)
    else (((s.seed * 48271 + 29).tmod 2147483647).tdiv 31 |>.tmod n, ⟨(s.seed * 48271 + 29).tmod 2147483647, s.pos⟩)
theorem tmod_in {x n : Int} (hx : 0 ≤ x) (hn : 0 < n) : 0 ≤ x.tmod n ∧ x.tmod n < n := ⟨Int.tmod_nonneg _ hx, Int.tmod_lt_of_pos _ hn⟩
theorem nx_ok (bs : List UInt8) (n : Int) {s : Src} (h : SrcOk s) : 0 ≤ (nx bs n s).1 ∧ (n ≤ 1 → (nx bs n s).1 = 0) ∧ (1 < n → (nx bs n s).1 < n) ∧ SrcOk (nx bs n s).2 := by
  obtain ⟨h1, h2⟩ := h
  have hs := tmod_in (x := s.seed * 48271 + 29) (n := 2147483647) (by omega) (by omega)
  have hx : 0 ≤ ((s.seed * 48271 + 29).tmod 2147483647).tdiv 31 := Int.tdiv_nonneg hs.1 (by omega)
  unfold nx
  split
  · exact ⟨Int.le_refl _, fun _ => rfl, fun h => absurd h (by omega), h1, h2⟩
  · split
    · rename_i hn hp
      have hb : 0 ≤ (if n ≤ 256 ∧ ((s.pos : Int) + 1).tmod 2 = 0 then (bs[s.pos].toNat : Int) else ((s.seed * 48271 + 29).tmod 2147483647).tdiv 31 + (bs[s.pos].toNat : Int)) := by split <;> omega
      have := tmod_in (n := n) hb (by omega)
      exact ⟨this.1, fun h => absurd h hn, fun _ => this.2, hs⟩
    · rename_i hn hp
      have := tmod_in (n := n) hx (by omega)
      exact ⟨this.1, fun h => absurd h hn, fun _ => this.2, hs⟩
set_option maxHeartbeats 4000000 in
theorem c_l01Next (v : Nat) (bs : List UInt8) (n : Int) (s : Src) (h : SrcOk s) (hl : bs.length ≤ 4096) :
    FnM Tryz.prog 48 [srcB v bs s] [.ptr 1000000000 v 0 0, eI n] (fun x io => x = eI (nx bs n s).1 ∧ io = [srcB v bs (nx bs n s).2]) := by
  refine FnM.of_vcN 78 [.tmp 4] Tryz.func48 rfl rfl rfl rfl rfl (of_decide_eq_true rfl) ?_
  obtain ⟨h1, h2⟩ := h
  have hs := tmod_in (x := s.seed * 48271 + 29) (n := 2147483647) (by omega) (by omega)
  have hx : 0 ≤ ((s.seed * 48271 + 29).tmod 2147483647).tdiv 31 := Int.tdiv_nonneg hs.1 (by omega)
  have hx2 : ((s.seed * 48271 + 29).tmod 2147483647).tdiv 31 ≤ 2147483647 := by
    have : ((s.seed * 48271 + 29).tmod 2147483647).tdiv 31 ≤ (s.seed * 48271 + 29).tmod 2147483647 := Int.tdiv_le_self _ hs.1
    omega
  by_cases hn : n ≤ 1
  · have hF : nx bs n s = (0, s) := by rw [nx, if_pos hn]
    rw [hF]
    have hn' := decide_eq_true hn
    simp -dsimp -implicitDefEqProofs only [go_sem, ↓reduceIte, hn']
    all_goals (first | omega | (refine ⟨?_, ?_⟩ <;> omega) | (simp; done) | (simp; omega) | (refine ⟨?_, ?_⟩ <;> omega) | (exact rfl) | (simp; done) | (simp_all; done) | (simp_all; omega) | (exfalso; simp_all [bne]; done) | trace_state)
  have hn' := decide_eq_false hn
  by_cases hp : s.pos < bs.length
  · have hF : nx bs n s = ((if n ≤ 256 ∧ ((s.pos : Int) + 1).tmod 2 = 0 then (bs[s.pos].toNat : Int) else ((s.seed * 48271 + 29).tmod 2147483647).tdiv 31 + (bs[s.pos].toNat : Int)).tmod n, ⟨(s.seed * 48271 + 29).tmod 2147483647, s.pos + 1⟩) := by
      rw [nx, if_neg hn, dif_pos hp]
    have hb : (bs[s.pos].toNat : Int) ≤ 255 := by have := bs[s.pos].toNat_lt; omega
    have gp := get_some hp
    have lp := lt_len hp
    have ep : ((s.pos : Int) + 1 - 1).toNat = s.pos := by omega
    rw [hF]
    clear hF
    generalize hz : bs[s.pos] = z at gp hb
    by_cases hc : n ≤ 256 ∧ ((s.pos : Int) + 1).tmod 2 = 0
    · rw [if_pos hc]
      have c1 := decide_eq_true hc.1
      have c2 : (((s.pos : Int) + 1).tmod 2 == 0) = true := beq_iff_eq.2 hc.2
      clear hc
      simp -dsimp -implicitDefEqProofs only [go_sem, ↓reduceIte, hn']
      repeat' first
        | (refine Br.intro (fun _ => ?_) (fun _ => ?_) <;> try simp -dsimp -implicitDefEqProofs only [go_sem, ↓reduceIte, *])
        | (with_reducible refine And.intro ?_ ?_)
        | (refine Later.draw mixed rfl ?_; try simp -dsimp -implicitDefEqProofs only [go_sem, ↓reduceIte, lp, gp, ep])
      all_goals (first | omega | (refine ⟨?_, ?_⟩ <;> omega) | (simp; done) | (simp; omega) | (refine ⟨?_, ?_⟩ <;> omega) | (exact rfl) | (simp; done) | (simp_all; done) | (simp_all; omega) | (exfalso; simp_all [bne]; done) | trace_state)
    · rw [if_neg hc]
      have c3 : (decide (n ≤ 256) && (((s.pos : Int) + 1).tmod 2 == 0)) = false := by
        rw [Bool.eq_false_iff]; intro h; apply hc; simpa using h
      clear hc
      simp -dsimp -implicitDefEqProofs only [go_sem, ↓reduceIte, hn']
      repeat' first
        | (refine Br.intro (fun _ => ?_) (fun _ => ?_) <;> try simp -dsimp -implicitDefEqProofs only [go_sem, ↓reduceIte, *])
        | (with_reducible refine And.intro ?_ ?_)
        | (refine Later.draw mixed rfl ?_; try simp -dsimp -implicitDefEqProofs only [go_sem, ↓reduceIte, lp, gp, ep])
      all_goals (first | omega | (refine ⟨?_, ?_⟩ <;> omega) | (simp; done) | (simp; omega) | (refine ⟨?_, ?_⟩ <;> omega) | (exact rfl) | (simp; done) | (simp_all; done) | (simp_all; omega) | (exfalso; simp_all [bne]; done) | trace_state)
  · have hF : nx bs n s = (((s.seed * 48271 + 29).tmod 2147483647).tdiv 31 |>.tmod n, ⟨(s.seed * 48271 + 29).tmod 2147483647, s.pos⟩) := by
      rw [nx, if_neg hn, dif_neg hp]
    have lp : decide ((s.pos : Int) < (bs.length : Int)) = false := decide_eq_false (by omega)
    rw [hF]
    clear hF
    simp -dsimp -implicitDefEqProofs only [go_sem, ↓reduceIte, hn']
    repeat' first
      | (refine Br.intro (fun _ => ?_) (fun _ => ?_) <;> try simp -dsimp -implicitDefEqProofs only [go_sem, ↓reduceIte, *])
      | (with_reducible refine And.intro ?_ ?_)
      | (refine Later.draw mixed rfl ?_; try simp -dsimp -implicitDefEqProofs only [go_sem, ↓reduceIte, lp])
    all_goals (first | omega | (refine ⟨?_, ?_⟩ <;> omega) | (simp; done) | (simp; omega) | (refine ⟨?_, ?_⟩ <;> omega) | (exact rfl) | (simp; done) | (simp_all; done) | (simp_all; omega) | (exfalso; simp_all [bne]; done) | trace_state)
attribute [irreducible] nx
end Go.Vc


set_option linter.unusedVariables false
set_option linter.unusedSimpArgs false
set_option linter.unnecessarySimpa false
namespace Go.Vc
open Go.Proofs
set_option maxRecDepth 100000
theorem dec_Code : Dec Tryz.prog 22 (fun xs : List UInt8 => xs.length ≤ maxLen ∧ ∀ a ∈ xs, True) (fun xs => [eYs xs]) :=
  Dec.slice false 1 Tryz.underlying22 (by kernel_rfl) (by decide) (fun _ => rfl) (fun _ => rfl) (Dec.u8 Tryz.underlying5)
end Go.Vc


set_option linter.unusedVariables false
set_option linter.unusedSimpArgs false
set_option linter.unnecessarySimpa false
namespace Go.Vc
open Go.Proofs
set_option maxRecDepth 100000
def pk (bs : List UInt8) (xs : List Int) (s : Src) : Int × Src := (xs.getD (nx bs xs.length s).1.toNat 0, (nx bs xs.length s).2)
theorem pk_ok (bs : List UInt8) (xs : List Int) {s : Src} (h : SrcOk s) : SrcOk (pk bs xs s).2 := (nx_ok bs xs.length h).2.2.2
theorem pk_mem (bs : List UInt8) {xs : List Int} {s : Src} (h : SrcOk s) (h0 : xs ≠ []) : (pk bs xs s).1 ∈ xs := by
  obtain ⟨h1, h2, h3, _⟩ := nx_ok bs xs.length h
  have hl : 0 < xs.length := List.length_pos_iff.2 h0
  have : (nx bs xs.length s).1.toNat < xs.length := by
    by_cases h : (xs.length : Int) ≤ 1
    · rw [h2 h]; exact hl
    · have := h3 (by omega); omega
  show xs.getD _ 0 ∈ xs
  rw [List.getD_eq_getElem?_getD, List.getElem?_eq_getElem this]
  exact List.getElem_mem this
theorem c_l01Pick (v v2 : Nat) (d : Bool) (bs : List UInt8) (xs : List Int) (ys : List AV) (s : Src) (hy : ys = xs.map eI) (h0 : 0 < xs.length) (hx : xs.length ≤ 1000) (h : SrcOk s) (hl : bs.length ≤ 4096) :
    FnM Tryz.prog 77 [srcB v bs s, .row v2 ⟨1, false⟩ d ys] [.ptr 1000000000 v 0 0, .ref 1000000001 v2 0 xs.length] (fun x io => x = eI (pk bs xs s).1 ∧ io = [srcB v bs (pk bs xs s).2, .row v2 ⟨1, false⟩ d ys]) := by
  subst hy
  refine FnM.of_vcN 12 [.tmp 4] Tryz.func77 rfl rfl rfl rfl rfl (of_decide_eq_true rfl) ?_
  obtain ⟨h1, h2, h3, h4⟩ := nx_ok bs xs.length h
  have hc := fun v => c_l01Next v bs xs.length s h hl
  have hi : (nx bs xs.length s).1.toNat < xs.length := by
    by_cases h : (xs.length : Int) ≤ 1
    · rw [h2 h]; exact h0
    · have := h3 (by omega); omega
  have gi := get_some hi
  have hp : (pk bs xs s).1 = xs[(nx bs xs.length s).1.toNat] := by rw [pk]; simp [List.getD_eq_getElem?_getD, hi]
  have hp2 : (pk bs xs s).2 = (nx bs xs.length s).2 := rfl
  rw [hp, hp2]
  clear hp hp2
  simp -dsimp -implicitDefEqProofs only [go_sem, ↓reduceIte]
  repeat' first
    | (with_reducible refine And.intro ?_ ?_)
    | (refine sCallT_io [1000000000] ?_; simp -dsimp -implicitDefEqProofs only [go_sem, ↓reduceIte]; refine sCallM_one (hc _) ?_; simp -dsimp -implicitDefEqProofs only [go_sem, ↓reduceIte, gi])
  all_goals first
    | omega
    | (refine ⟨?_, ?_⟩ <;> omega)
    | (refine ⟨?_, ?_⟩ <;> first | omega | rfl)
    | rfl
    | (simp; done)
    | trace_state
end Go.Vc


