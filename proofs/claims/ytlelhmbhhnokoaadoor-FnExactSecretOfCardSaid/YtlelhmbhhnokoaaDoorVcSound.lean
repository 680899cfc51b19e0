/-
  One operation, whole.
-/
import Derived.Test.YtlelhmbhhnokoaaDoorVcOps
set_option linter.unusedVariables false
set_option linter.unusedSimpArgs false
set_option linter.unnecessarySimpa false
namespace Go.Vc

section
variable {P : Program} {B : Base} {N : Nat} {φ : Nat → LS} {fp : Nat → List Nat} {S : Nat → Prop} {ts : Env} {m : Mem} {a : Act} {w : World}

theorem Gives.mono {k k' : AV → Env → Mem → Prop} {v : Value} {w : World} (h : Gives B N a k v w) (hk : ∀ x ts m, k x ts m → k' x ts m) : Gives B N a k' v w := by
  obtain ⟨φ, fp, S, ts, m, x, h1, h2, h3, h4⟩ := h
  exact ⟨φ, fp, S, ts, m, x, h1, h2, h3, hk _ _ _ h4⟩
theorem Runs.mono {k k' : AV → Env → Mem → Prop} {r : Result Value} (h : Runs B N a k r) (hk : ∀ x ts m, k x ts m → k' x ts m) : Runs B N a k' r := by
  obtain ⟨v, w', h1, h2⟩ := h
  exact ⟨v, w', h1, h2.mono hk⟩

theorem known_evs (h : RS B N φ fp S ts m a w) (l : List (Nat × Operand)) : ∀ p, p ∈ l.map (fun p => (p.1, Vc.ev ts p.2)) → ∀ q, q ∈ labs p.2 → known m q.1 q.2 := by
  intro p hp q hq
  obtain ⟨p0, _, rfl⟩ := List.mem_map.1 hp
  exact h.evL p0.2 q.1 q.2 hq

theorem call_sound {f : FuncId} {d : Nat} {xs : List AV} {vs : Array Value} (h : RS B N φ fp S ts m a w) (hxs : RdL (RV w S φ) xs vs.toList) (hxl : ∀ i (hi : i < xs.length) l ver, (l, ver) ∈ labs xs[i] → known m l ver) {k : AV → Mem → Prop} (hk : sCall P f d xs m k) :
    Enters P f ∧ Calls P f vs w fun e w' => ∃ v, e = .returned v ∧ Gives B N a (fun x ts' m' => ts' = ts ∧ k x m') v w' := by
  have hk' : sTrees m (fun ts => sCallT P f d xs ts m k ⟨⟩) [] xs := by
    cases xs with
    | nil => exact hk
    | cons x r => exact hk
  have owned : ∀ (trs : List AV) (post : AV → Prop), RdL (Rd w (Now w)) trs vs.toList → Fn P f trs true post → (∀ r, post r → sMat (1000 * (d + 1)) r m k) →
      Calls P f vs w fun e w' => ∃ v, e = .returned v ∧ Gives B N a (fun x ts' m' => ts' = ts ∧ k x m') v w' := by
    intro trs post hrd hfn hpost
    refine (hfn.2 w (Now w) vs (fun b hb => hb) (h.kon.mono (fun _ _ => rfl) fun b hb => (h.sB b hb).1) (by simpa using hrd.1) hrd.2).mono ?_
    rintro e w' ⟨r, v, rfl, hr, hg, hres⟩
    simp only [FnRes, if_true] at hres
    obtain ⟨fs, hown, hnd, hfr⟩ := hres
    have hRS := h.grown hg
    obtain ⟨φ', fp', y, m', g1, g2, g3, g4⟩ := mat_out hRS hown hnd (fun b hb => ⟨Nat.le_trans h.size (hfr b hb), fun hs => by have := (h.sB b hs).1; have := hfr b hb; omega, fun l hl => by have := (h.fpB l b hl).1; have := hfr b hb; omega⟩) _ (hpost r hr)
    exact ⟨v, rfl, φ', fp', S, ts, m', y, g1.rs, g3, g4, rfl, g2⟩
  have io : sCallIo P f xs m k → Enters P f ∧ Calls P f vs w fun e w' => ∃ v, e = .returned v ∧ Gives B N a (fun x ts' m' => ts' = ts ∧ k x m') v w' :=
    fun hi => hi B N φ fp S ts a w vs h (by simpa using hxs.1) hxs.2 hxl
  by_cases hlab : noLabs xs
  · have hct := trees_S xs [] hlab hk'
    rcases hct with hct | hct
    · exact io hct
    obtain ⟨own, post, hfn, hshare, hpost⟩ := hct
    rw [List.reverse_nil, List.nil_append] at hfn
    have lab : ∀ (xs : List AV), noLabs xs → ∀ i (hi : i < xs.length), labs xs[i] = [] := by
      intro xs
      induction xs with
      | nil => intro _ i hi; exact absurd hi (Nat.not_lt_zero _)
      | cons x r ih =>
        intro hl i hi
        cases i with
        | zero => exact hl.1.1
        | succ i => exact ih hl.2 i (by simpa using hi)
    have hrd : ∀ i (hi : i < xs.length), Rd w S xs[i] (vs.toList.getD i Go.undef) := fun i hi => rd_of_rv (hxs.2 i hi) (lab xs hlab i hi)
    refine ⟨hfn.1, ?_⟩
    cases own with
    | true => exact owned xs post ⟨hxs.1, fun i hi => (hrd i hi).mono (fun _ _ => rfl) fun b hb => (h.sB b hb).1⟩ hfn hpost
    | false =>
      refine (hfn.2 w S vs (fun b hb => (h.sB b hb).1) h.kon (by simpa using hxs.1) hrd).mono ?_
      rintro e w' ⟨r, v, rfl, hr, hg, hres⟩
      simp only [FnRes, Bool.false_eq_true, if_false] at hres
      have hRS := (h.grown hg).hold (fun b => w.heap.size ≤ b ∧ b < w'.heap.size) (fun b hb => ⟨hb.2, Nat.le_trans h.size hb.1, fun l hl => by have := (h.fpB l b hl).1; omega⟩)
      exact ⟨v, rfl, φ, fp, _, ts, m, r, hRS, .rd _ _ hres, fun l ver hl => (by rw [labs_rd hres] at hl; cases hl), rfl, hpost r hr⟩
  · obtain ⟨trs, hct, hrd⟩ := trees_out h xs vs.toList [] [] hxs ⟨rfl, fun i hi => absurd hi (Nat.not_lt_zero _)⟩ hk'
    rw [List.nil_append] at hrd
    rcases hct with hct | hct
    · exact io hct
    obtain ⟨own, post, hfn, hshare, hpost⟩ := hct
    refine ⟨hfn.1, ?_⟩
    cases own with
    | true => exact owned trs post hrd hfn hpost
    | false => exact absurd (hshare rfl) hlab

theorem evs_RdL (h : RS B N φ fp S ts m a w) (l : List Operand) : RdL (RV w S φ) (l.map (Vc.ev ts)) (l.map a.eval) := by
  refine ⟨by simp, fun i hi => ?_⟩
  simp only [List.length_map] at hi
  simp only [List.getElem_map, List.getD_eq_getElem?_getD, List.getElem?_map, List.getElem?_eq_getElem hi, Option.map_some, Option.getD_some]
  exact h.ev _

/-- The values that parts take. -/
theorem parts_toArray (l : Array (Nat × Operand)) (a : Act) : (l.map fun (i, x) => (i, a.eval x)) = ((l.toList.map fun p => (p.1, a.eval p.2)).toArray) := by
  apply Array.ext'; simp

theorem run_nil {t : TypeId} {ti : TI} (ht : tiOf P t = some ti) (hks : ti.kind = .slice) (a : Option Addr) (n c : Nat) (w : World) : (Op.equal t (.slice a n c) (.slice none 0 0)).run P w = .ok a.isNone w := by
  have hu := kind_slice ht hks
  show (Op.equalIn (9999 + 1) t (.slice a n c) (.slice none 0 0)).run P w = _
  have : (underlying t).run P w = .ok (.slice ti.elem) w := by simp [underlying, hu]
  rw [Op.equalIn, Sem.run_bind, this]
  cases a <;> rfl
theorem nilB_out (h : RS B N φ fp S ts m a w) {x : AV} {u : Value} (hx : RV w S φ x u) {k : Bool → Prop} (hk : sNilB x m k) : ∃ ad n c, u = .slice ad n c ∧ k ad.isNone := by
  unfold sNilB at hk
  split at hk
  · rename_i sh xs
    cases hx with
    | rd _ _ hr => cases hr with
      | nil _ ad => exact ⟨ad, 0, 0, rfl, hk _ fun _ => rfl⟩
      | arr _ _ b off cap cs e fr _ _ _ _ _ _ => exact ⟨_, _, _, rfl, hk _ fun e => by simp at e⟩
  · rename_i l v i n
    obtain ⟨r1, r2⟩ := rv_ref hx
    unfold sLive at hk
    split at hk
    · rename_i v' xs hlk
      obtain ⟨rfl, hk⟩ := hk
      obtain ⟨b, cs, e, sh, hφ, _⟩ := h.mSome l _ hlk
      obtain ⟨ad, cap, rfl, hn, hc⟩ := r1 b sh hφ
      refine ⟨ad, n, cap, rfl, hk _ fun e => ?_⟩
      rcases hc with rfl | ⟨rfl, _⟩
      · omega
      · simp at e
    · rename_i v' sh d xs hlk
      obtain ⟨rfl, hk⟩ := hk
      rcases h.mSome l _ hlk with ⟨h1, _⟩ | ⟨b, cap, hφ, _⟩
      · obtain ⟨rfl, ad, rfl⟩ := r2 h1
        exact ⟨ad, 0, 0, rfl, hk _ fun _ => rfl⟩
      · obtain ⟨ad, cap, rfl, hn, hc⟩ := r1 b sh hφ
        refine ⟨ad, n, cap, rfl, hk _ fun e => ?_⟩
        rcases hc with rfl | ⟨rfl, _⟩
        · omega
        · simp at e
    · exact hk.elim
  · cases hx with
    | rd _ _ hr => cases hr with
      | e0 ad => exact ⟨ad, 0, 0, rfl, hk _⟩
  · obtain ⟨rfl, _⟩ := rv_val hx
    exact ⟨none, 0, 0, rfl, hk⟩
  · exact hk.elim
theorem run_binN {op : BinOp} {t : TypeId} {ti : TI} (h : RS B N φ fp S ts m a w) (ht : tiOf P t = some ti) {x y : AV} {u v : Value} (hx : RV w S φ x u) (hy : RV w S φ y v) {ox oy : Operand} {k : AV → Prop}
    (hk : sBinN op ti.kind x y (cst oy) m k) : ∃ r, (do eqGuard op t ox oy u v; binOp op t u v : Sem Value).run P w = .ok r w ∧ Scal k r := by
  unfold sBinN at hk
  split at hk
  · rename_i hks
    obtain ⟨ad, n, c, rfl, hk⟩ := nilB_out h hx hk
    obtain ⟨rfl, _⟩ := rv_val hy
    refine ⟨.bool ad.isNone, ?_, rfl, hk⟩
    have : (binOp .eql t (.slice ad n c) (.slice none 0 0)).run P w = .ok (.bool ad.isNone) w := by
      simp only [binOp, Sem.run_bind, run_nil ht hks]; rfl
    simp only [Sem.run_bind]
    have hg : (eqGuard .eql t ox oy (.slice ad n c) (.slice none 0 0)).run P w = .ok () w := by simp [eqGuard]
    rw [hg]; exact this
  · rename_i hks
    obtain ⟨ad, n, c, rfl, hk⟩ := nilB_out h hx hk
    obtain ⟨rfl, _⟩ := rv_val hy
    refine ⟨.bool (!ad.isNone), ?_, rfl, hk⟩
    have : (binOp .neq t (.slice ad n c) (.slice none 0 0)).run P w = .ok (.bool (!ad.isNone)) w := by
      simp only [binOp, Sem.run_bind, run_nil ht hks]; rfl
    simp only [Sem.run_bind]
    have hg : (eqGuard .neq t ox oy (.slice ad n c) (.slice none 0 0)).run P w = .ok () w := by simp [eqGuard]
    rw [hg]; exact this
  · rename_i hks
    obtain ⟨ms, hu⟩ := kind_iface ht hks
    obtain ⟨rfl, _⟩ := rv_val hy
    have e1 : ∀ (d : Nat) u x, (Op.equalIn (d + 1) t (.iface u x) .nilIface).run P w = .ok false w := fun d u x => by rw [Op.equalIn]; simp [run_underlying hu]
    have e2 : ∀ (d : Nat), (Op.equalIn (d + 1) t .nilIface .nilIface).run P w = .ok true w := fun d => by rw [Op.equalIn]; simp [run_underlying hu]
    have g1 : ∀ op u x, (eqGuard op t ox oy (.iface u x) .nilIface).run P w = .ok () w := fun op u x => by cases op <;> simp [eqGuard]
    have g2 : ∀ op, cst oy = true → (eqGuard op t ox oy .nilIface .nilIface).run P w = .ok () w := fun op hc => by
      cases oy <;> simp [cst] at hc
      cases op <;> simp [eqGuard]
    unfold sIfc at hk
    split at hk
    · obtain ⟨rfl, _⟩ := rv_val hx
      exact ⟨_, (by simp only [Sem.run_bind, g2 _ hk.1, Result.andThen_ok, binOp, Op.equal, Op.maxDepth]; simp [e2]), rfl, hk.2⟩
    · obtain ⟨rfl, _⟩ := rv_val hx
      exact ⟨_, (by simp only [Sem.run_bind, g2 _ hk.1, Result.andThen_ok, binOp, Op.equal, Op.maxDepth]; simp [e2]), rfl, hk.2⟩
    · obtain ⟨rfl, _⟩ := rv_val hx
      exact ⟨_, (by simp only [Sem.run_bind, g1, Result.andThen_ok, binOp, Op.equal, Op.maxDepth]; simp [e1]), rfl, hk⟩
    · obtain ⟨rfl, _⟩ := rv_val hx
      exact ⟨_, (by simp only [Sem.run_bind, g1, Result.andThen_ok, binOp, Op.equal, Op.maxDepth]; simp [e1]), rfl, hk⟩
    · exact hk.elim
  · exact run_bin ht hx hy hk

theorem run_conv_bytes {src t e : TypeId} {sh : Sh} {bs : List UInt8} {v : Value} (hs : P.underlying src = some (.slice e)) (he : P.underlying e = some (.int .u8)) (ht : P.underlying t = some .string)
    (h : Rd w (Now w) (.arr sh (bs.map fun b => .val (.int .u8 b.toNat))) v) : (convert src t v).run P w = .ok (.string ⟨bs.toArray⟩) w := by
  have hnil : ∀ (ad : Option Addr), (convert src t (.slice ad 0 0)).run P w = .ok (.string ⟨#[]⟩) w := by
    intro ad
    cases ad with
    | none => simp only [convert, Sem.run_bind, run_underlying hs, run_underlying ht, run_underlying he, Result.andThen_ok]; rfl
    | some ad =>
      have := run_convert_bytes_back (P := P) w src t e ad 0 [] hs he ht (fun j hj => absurd hj (Nat.not_lt_zero _))
      simpa using this
  generalize hxs : bs.map (fun b => AV.val (.int .u8 b.toNat)) = xs at h
  have hlen : xs.length = bs.length := by rw [← hxs]; simp
  cases h with
  | nil sh ad =>
    have : bs = [] := List.eq_nil_of_length_eq_zero (by rw [← hlen]; rfl)
    subst this
    exact hnil ad
  | arr sh xs b off cap cs e2 fr hS hb hcap hl hf hv =>
    rw [hlen]
    refine run_convert_bytes_back (P := P) w src t e ⟨b, off, none⟩ cap bs hs he ht fun j hj => ?_
    have hj2 : j < xs.length := by omega
    have h1 := hf j hj2
    have h2 := hv j hj2
    have hx : xs[j] = .val (.int .u8 bs[j].toNat) := by simp [← hxs]
    rw [hx] at h1 h2
    obtain ⟨ha, hz⟩ := h1
    have e1 : sh = ⟨1, false⟩ := by cases sh; simp_all
    subst e1
    have h4 : elemV cs.toList (off + j * 1) ⟨1, false⟩ = .int .u8 bs[j].toNat := by
      generalize elemV cs.toList (off + j * 1) ⟨1, false⟩ = u at h2
      cases h2; rfl
    rw [elemV_cell, Nat.mul_one] at h4
    have h5 : off + j < cs.size := by simp only [Nat.mul_one] at hl; omega
    rw [List.getD_eq_getElem?_getD, Array.getElem?_toList, Array.getElem?_eq_getElem h5] at h4
    have e3 : (⟨b, off, none⟩ : Addr).add j = ⟨b, off + j, none⟩ := by unfold Addr.add; split <;> simp_all
    rw [e3]
    simp only [World.cell?, hb, Option.isSome_none, Bool.false_eq_true, ↓reduceIte, Array.getElem?_eq_getElem h5]
    exact congrArg some h4
theorem run_chr {n : Int} (h0 : 0 ≤ n) (h1 : n < 128) : (Conv.intToString n).run P w = .ok (.string ⟨#[UInt8.ofNat n.toNat]⟩) w := by
  have hv : Utf8.valid n = true := by
    unfold Utf8.valid
    simp; omega
  have : Utf8.encode n = ⟨#[UInt8.ofNat n.toNat]⟩ := by
    unfold Utf8.encode
    simp only [hv, if_true]
    rw [if_pos (by omega)]
  simp only [Conv.intToString, this]; rfl
theorem op_sound {o : Oper} {next : Act → World → Prop} {Q : Exit → Act → World → Prop} (h : RS B N φ fp S ts m a w) {k : AV → Mem → Prop} (hk : sOp P (o.dst.getD 0) o.op ts m k)
    (hnext : ∀ v w', Gives B N a (fun x ts' m' => ts' = ts ∧ k x m') v w' → next (a.put o.dst v) w') : o.wp P a w next Q := by
  have V : ∀ s : Sem Value, execOp a.eval o = (do pure (.value (← s)) : Sem Next) → Runs B N a (fun x ts' m' => ts' = ts ∧ k x m') (s.run P w) → o.wp P a w next Q := by
    intro s hs ⟨v, w', h1, h2⟩
    unfold Oper.wp
    rw [hs]
    simp only [Sem.run_bind, h1, Result.andThen_ok, Sem.run_pure]
    exact hnext v w' h2
  have Vm : ∀ s : Sem Value, ∀ k' : AV → Prop, execOp a.eval o = (do pure (.value (← s)) : Sem Next) → Runs B N a (fun x ts' m' => ts' = ts ∧ m' = m ∧ k' x) (s.run P w) → (∀ x, k' x → k x m) → o.wp P a w next Q := by
    intro s k' hs hr hkk
    exact V s hs (hr.mono fun x ts m ⟨h1, h2, h3⟩ => ⟨h1, by rw [h2]; exact hkk x h3⟩)
  have V0 : ∀ (x : AV) (v : Value), execOp a.eval o = (pure (.value v) : Sem Next) → RV w S φ x v → (∀ l ver, (l, ver) ∈ labs x → known m l ver) → k x m → o.wp P a w next Q := by
    intro x v hs hx hl hkx
    unfold Oper.wp
    rw [hs]
    exact hnext v w (h.gives hx hl ⟨rfl, hkx⟩)
  cases hop : o.op with
  | move x =>
    rw [hop] at hk
    exact V0 _ (a.eval x) (by simp only [execOp, hop]) (h.ev x) (h.evL x) hk
  | assign x =>
    rw [hop] at hk
    exact V0 _ (a.eval x) (by simp only [execOp, hop]) (h.ev x) (h.evL x) hk
  | pick c x y =>
    rw [hop] at hk
    have hk : sPick (Vc.ev ts c) (Vc.ev ts x) (Vc.ev ts y) fun v => k v m := hk
    have hc := h.ev c
    unfold sPick at hk
    split at hk
    · rename_i cb hcv
      rw [hcv] at hc
      obtain ⟨hcc, _⟩ := rv_val hc
      cases cb with
      | true => exact V0 _ (a.eval x) (by simp [execOp, hop, ← hcc, asBool]) (h.ev x) (h.evL x) (hk.1 rfl)
      | false => exact V0 _ (a.eval y) (by simp [execOp, hop, ← hcc, asBool]) (h.ev y) (h.evL y) (hk.2 rfl)
    · exact hk.elim
  | alloc t =>
    rw [hop] at hk
    obtain ⟨ti, ht, hk⟩ := sTI_out hk
    exact V _ (by simp only [execOp, hop]) (run_alloc h ht _ hk)
  | box t x =>
    rw [hop] at hk
    exact V _ (by simp only [execOp, hop]) (run_box h (h.ev x) (h.evL x) t _ hk)
  | build t parts =>
    rw [hop] at hk
    obtain ⟨ti, ht, hk⟩ := sTI_out hk
    obtain ⟨hks, hk⟩ := sSt_out hk
    refine Vm (Instr.build t ((parts.toList.map fun p => (p.1, a.eval p.2)).toArray)) (fun x => k x m) (by simp only [execOp, hop, parts_toArray]) ?_ (fun _ h => h)
    exact run_build' ht hks (fun fs hfs f hf => (fields_of ht fs hfs f hf).1) h (PR_map h parts.toList) (known_evs h parts.toList) hk
  | buildSlice t n parts =>
    rw [hop] at hk
    obtain ⟨tt, htt, hk⟩ := sTI_out hk
    obtain ⟨hks, hk⟩ := sSl_out hk
    obtain ⟨ti, ht, hk⟩ := sTI_out hk
    refine V (Instr.buildSlice t n ((parts.toList.map fun p => (p.1, a.eval p.2)).toArray)) (by simp only [execOp, hop, parts_toArray]) ?_
    exact run_buildSlice' htt hks ht h (PR_map h parts.toList) _ n hk
  | load t x =>
    rw [hop] at hk
    obtain ⟨ti, ht, hk⟩ := sTI_out hk
    exact V _ (by simp only [execOp, hop]) (run_loadX ht h (h.ev x) (h.evL x) hk)
  | store t p y =>
    rw [hop] at hk
    obtain ⟨ti, ht, hk⟩ := sTI_out hk
    obtain ⟨w', hr, φ', fp', S', ts', m', hRS, rfl, hkk⟩ := run_storeX ht h (h.ev p) (h.ev y) (h.evL y) hk
    unfold Oper.wp
    simp only [execOp, hop, Sem.run_bind, hr, Result.andThen_ok, Sem.run_pure]
    exact hnext _ w' (hRS.gives (x := .undef) (.rd _ _ (.undef _)) (fun _ _ hl => by cases hl) ⟨rfl, hkk⟩)
  | nilCheck x =>
    rw [hop] at hk
    have hk : sNil m (Vc.ev ts x) fun v => k v m := hk
    have hx := h.ev x
    have hxl := h.evL x
    unfold sNil at hk
    split at hk
    · rename_i l v i j hv
      rw [hv] at hx hxl
      obtain ⟨⟨b, sh, hφ⟩, hk⟩ := live_out h (rv_ptr2 hx).1 hk
      have := rv_ptr hx b sh hφ
      exact V0 _ (a.eval x) (by simp only [execOp, hop, this]) hx hxl hk
    · rename_i sh xs i j hv
      rw [hv] at hx hxl
      have hx' := rv_eptr hx
      cases hq : a.eval x with
      | pointer ad =>
        rw [hq] at hx'
        cases hx'
        exact V0 _ _ (by simp only [execOp, hop, hq]) (hq ▸ hx) hxl hk
      | _ => rw [hq] at hx'; cases hx'
    · rename_i f xs hv
      rw [hv] at hx hxl
      obtain ⟨cs, hcs, _⟩ := rv_clo hx
      exact V0 _ (a.eval x) (by simp only [execOp, hop, hcs]) hx hxl hk
    · exact hk.elim
  | binOp op t x y ty =>
    rw [hop] at hk
    obtain ⟨ti, ht, hk⟩ := sTI_out hk
    obtain ⟨r, hr, h1, h2⟩ := run_binS (h.ev x) (h.ev y) (ox := x) (oy := y) hk fun hk => run_binN h ht (h.ev x) (h.ev y) (ox := x) (oy := y) hk
    exact V _ (by simp only [execOp, hop]) ⟨r, w, hr, h.givesV h1 ⟨rfl, h2⟩⟩
  | unOp op t x =>
    rw [hop] at hk
    have hx := h.ev x
    cases op with
    | not =>
      have hk : sNot (Vc.ev ts x) fun v => k v m := hk
      unfold sNot at hk
      split at hk
      · rename_i b hv
        rw [hv] at hx
        obtain ⟨hb, _⟩ := rv_val hx
        exact V (Op.unary .not (a.eval x)) (by simp only [execOp, hop]) ⟨.bool (!b), w, by rw [← hb]; rfl, h.givesV rfl ⟨rfl, hk⟩⟩
      · exact hk.elim
    | neg =>
      have hk : sNeg (Vc.ev ts x) fun v => k v m := hk
      unfold sNeg at hk
      split at hk
      · rename_i i n hv
        rw [hv] at hx
        obtain ⟨hb, _⟩ := rv_val hx
        exact V (Op.unary .neg (a.eval x)) (by simp only [execOp, hop]) ⟨.int i (i.wrap (0 - n)), w, by rw [← hb]; rfl, h.givesV rfl ⟨rfl, sWrap_out (c := fun v => k v m) hk⟩⟩
      · exact hk.elim
    | _ => exact hk.elim
  | convert src t x =>
    rw [hop] at hk
    obtain ⟨si, hsi, hk⟩ := sTI_out hk
    obtain ⟨ti, ht, hk⟩ := sTI_out hk
    have hx := h.ev x
    obtain ⟨_, sd, _, _, hsd, _⟩ := kind_of hsi
    unfold sConvX at hk
    split at hk
    · rename_i hks hkd
      obtain ⟨ei, hei, hk⟩ := sTI_out hk
      unfold isU8 at hk
      split at hk
      · rename_i hke
        obtain ⟨y, hk, hrd, _, _⟩ := leafT_out h hx hk
        unfold sBytes at hk
        split at hk
        · rename_i sh xs
          obtain ⟨bs, rfl, hk2⟩ := sBytesL_out hk
          refine V (convert src t (a.eval x)) (by simp only [execOp, hop]) ⟨.string ⟨bs.toArray⟩, w, ?_, h.givesV rfl ⟨rfl, hk2⟩⟩
          exact run_conv_bytes (kind_slice hsi hks) (kind_int hei hke) (kind_string ht hkd) hrd
        · exact hk.elim
      · exact hk.elim
    · rename_i i hks hkd
      unfold sChr at hk
      split at hk
      · rename_i j n hv
        rw [hv] at hx
        obtain ⟨hb, _⟩ := rv_val hx
        obtain ⟨⟨h0, h1⟩, hk⟩ := hk
        refine V (convert src t (a.eval x)) (by simp only [execOp, hop]) ⟨.string ⟨#[UInt8.ofNat n.toNat]⟩, w, ?_, h.givesV rfl ⟨rfl, hk⟩⟩
        rw [← hb]
        simp only [convert, Sem.run_bind, run_underlying (kind_int hsi hks), run_underlying (kind_string ht hkd), Result.andThen_ok]
        exact run_chr h0 h1
      · exact hk.elim
    unfold sConv at hk
    split at hk
    · rename_i i j n hkd hv
      rw [hv] at hx
      obtain ⟨hb, _⟩ := rv_val hx
      refine V (convert src t (a.eval x)) (by simp only [execOp, hop]) ⟨.int i (i.wrap n), w, ?_, h.givesV rfl ⟨rfl, sWrap_out (c := fun v => k v m) hk⟩⟩
      rw [← hb]
      simp only [convert, Sem.run_bind, run_underlying hsd, run_underlying (kind_int ht hkd), Result.andThen_ok]
      cases sd <;> rfl
    · rename_i s hkd hv
      rw [hv] at hx
      obtain ⟨hb, _⟩ := rv_val hx
      refine V (convert src t (a.eval x)) (by simp only [execOp, hop]) ⟨.string s, w, ?_, h.givesV rfl ⟨rfl, hk⟩⟩
      rw [← hb]
      simp only [convert, Sem.run_bind, run_underlying hsd, run_underlying (kind_string ht hkd), Result.andThen_ok]
      cases sd <;> rfl
    · exact hk.elim
  | makeSlice t l c =>
    rw [hop] at hk
    obtain ⟨tt, htt, hk⟩ := sTI_out hk
    obtain ⟨hks, hk⟩ := sSl_out hk
    obtain ⟨ti, ht, hk⟩ := sTI_out hk
    exact V _ (by simp only [execOp, hop]) (run_make' htt hks ht h (h.ev l) (h.ev c) _ hk)
  | slice t x lo hi mx =>
    rw [hop] at hk
    have BVm : ∀ q : Option Operand, BV w S φ (q.map (Vc.ev ts)) (q.map a.eval) := by
      intro q
      cases q with
      | none => trivial
      | some q => exact h.ev q
    cases mx with
    | none =>
      have hk : sTI (tiOf P t) fun tt => sSlK P tt (Vc.ev ts x) (lo.map (Vc.ev ts)) (hi.map (Vc.ev ts)) m fun v => k v m := by
        cases lo <;> exact hk
      obtain ⟨tt, htt, hk⟩ := sTI_out hk
      have hx := h.ev x
      have hxl := h.evL x
      generalize Vc.ev ts x = xv at hx hxl hk
      unfold sSlK at hk
      split at hk
      · rename_i hkd
        obtain ⟨hs, hk⟩ := hk
        refine Vm (Instr.sliceAt t (a.eval x) (lo.map a.eval) (hi.map a.eval) none) (fun x => k x m) (by simp only [execOp, hop]; rfl) ?_ (fun _ h => h)
        refine run_slice' htt ⟨0, false⟩ (fun hc => by rw [hkd] at hc; cases hc) (.inr hkd) h hx hxl (BVm lo) (BVm hi) ⟨fun hc => (by rw [hkd] at hc; cases hc), fun hc => ?_⟩ hk
        split at hs
        · exact absurd rfl (hc _)
        · exact hs.elim
      · rename_i hkd
        obtain ⟨hs, hk⟩ := hk
        obtain ⟨ti, ht, hk⟩ := sTI_out hk
        refine Vm (Instr.sliceAt t (a.eval x) (lo.map a.eval) (hi.map a.eval) none) (fun x => k x m) (by simp only [execOp, hop]; rfl) ?_ (fun _ h => h)
        refine run_slice' htt ti.sh (fun _ => ⟨ti, ht, rfl⟩) (.inl hkd) h hx hxl (BVm lo) (BVm hi) ⟨fun _ s hc => ?_, fun _ => hkd⟩ hk
        rw [hc] at hs; exact hs
      · exact hk.elim
    | some mv =>
      cases lo with
      | some lv => exact hk.elim
      | none =>
        obtain ⟨⟨h0, hm0⟩, hk⟩ := hk
        obtain ⟨tt, htt, hk⟩ := sTI_out hk
        obtain ⟨hks, hk⟩ := sSl_out hk
        obtain ⟨ti, ht, hk⟩ := sTI_out hk
        have hx := h.ev x
        have hsl : (∃ ad n c, a.eval x = .slice ad n c) ∧ k .e0 m := by
          generalize a.eval x = u at hx
          generalize Vc.ev ts x = xv at hx hk
          unfold sSlice0 at hk
          split at hk
          · cases rv_arr hx with
            | nil _ ad => exact ⟨⟨_, _, _, rfl⟩, hk⟩
            | arr => exact ⟨⟨_, _, _, rfl⟩, hk⟩
          · rename_i l v i n
            have hr := rv_ref hx
            unfold sLive at hk
            split at hk
            · rename_i v' xs hlk
              obtain ⟨rfl, hk⟩ := hk
              obtain ⟨b, cs, e, sh, hφ, _⟩ := h.mSome l _ hlk
              obtain ⟨ad, c, rfl, _⟩ := hr.1 b sh hφ
              exact ⟨⟨_, _, _, rfl⟩, hk⟩
            · rename_i v' sh d xs hlk
              obtain ⟨rfl, hk⟩ := hk
              rcases h.mSome l _ hlk with ⟨h1, _⟩ | ⟨b, cap, hφ, _⟩
              · obtain ⟨rfl, ad, rfl⟩ := hr.2 h1
                exact ⟨⟨_, _, _, rfl⟩, hk⟩
              · obtain ⟨ad, c, rfl, _⟩ := hr.1 b sh hφ
                exact ⟨⟨_, _, _, rfl⟩, hk⟩
            · exact hk.elim
          · obtain ⟨h1, hk⟩ := hk
            unfold isNil at h1
            split at h1
            · obtain ⟨ad, rfl⟩ := rv_e0 hx; exact ⟨⟨_, _, _, rfl⟩, hk⟩
            · obtain ⟨rfl, _⟩ := rv_val hx; exact ⟨⟨_, _, _, rfl⟩, hk⟩
            · cases h1
        obtain ⟨⟨ad, n, c, hu⟩, hk⟩ := hsl
        have z0 : ∀ q : Option Operand, is0 q = true → ∃ j, q.map a.eval = some (.int j 0) := by
          intro q hq
          unfold is0 at hq
          split at hq
          · rename_i j n
            have : n = 0 := by simpa using hq
            subst this; exact ⟨j, rfl⟩
          · cases hq
        obtain ⟨jh, ejh⟩ := z0 hi h0
        obtain ⟨jm, ejm⟩ := z0 (some mv) hm0
        refine V (Instr.sliceAt t (a.eval x) none (hi.map a.eval) ((some mv).map a.eval)) (by simp only [execOp, hop, Option.map_none]) ⟨.slice ad 0 0, w, ?_, h.gives (x := .e0) (.rd _ _ (.e0 _)) (fun _ _ hl => by cases hl) ⟨rfl, hk⟩⟩
        rw [hu, ejh, ejm]
        have hund := kind_slice htt hks
        unfold Instr.sliceAt
        simp [run_underlying hund, Instr.slice, Instr.sliceBounds, run_sliceBound, sizeOf_run ht]
  | fieldAddr t x f =>
    rw [hop] at hk
    obtain ⟨ti, ht, hk⟩ := sTI_out hk
    obtain ⟨fd, hf, hsz, hk⟩ := sFld_out hk
    exact Vm _ (fun x => k x m) (by simp only [execOp, hop]) (run_field ht h (h.ev x) (h.evL x) hf hsz hk) (fun _ h => h)
  | field t x f =>
    rw [hop] at hk
    obtain ⟨ti, ht, hk⟩ := sTI_out hk
    obtain ⟨fd, hf, hk⟩ := sFld_out hk
    have hx := h.ev x
    have hxl := h.evL x
    unfold sPartA at hk
    split at hk
    · rename_i ys hv
      rw [hv] at hx hxl
      exact Vm _ (fun x => k x m) (by simp only [execOp, hop]) (run_fieldV h hx hxl ht hf hk ⟨_, rfl⟩) (fun _ h => h)
    · exact hk.elim
  | indexAddr t x i =>
    rw [hop] at hk
    obtain ⟨tt, htt, hk⟩ := sTI_out hk
    obtain ⟨hks, hk⟩ := sSl_out hk
    obtain ⟨ti, ht, hk⟩ := sTI_out hk
    exact Vm _ (fun x => k x m) (by simp only [execOp, hop]) (run_idx htt hks ht h (h.ev x) (h.evL x) (h.ev i) hk) (fun _ h => h)
  | index t x i =>
    rw [hop] at hk
    obtain ⟨tt, htt, hkd, hk⟩ := sTI_out hk
    have hks : tt.kind = .string := by
      generalize tt.kind = kk at hkd
      cases kk <;> first | rfl | exact hkd.elim
    exact Vm _ (fun x => k x m) (by simp only [execOp, hop]) (run_index (kind_string htt hks) h (h.ev x) (h.ev i) hk) (fun _ h => h)
  | extract x i =>
    rw [hop] at hk
    have hk : sTup i (Vc.ev ts x) fun v => k v m := hk
    have hx := h.ev x
    have hxl := h.evL x
    unfold sTup at hk
    split at hk
    · rename_i xs hv
      rw [hv] at hx hxl
      cases hi : xs[i]? with
      | none => rw [hi] at hk; exact hk.elim
      | some y =>
        rw [hi] at hk
        obtain ⟨hi1, hi2⟩ := List.getElem?_eq_some_iff.1 hi
        obtain ⟨cs, hcs, h1, h2⟩ := rv_tup hx
        have hlt : i < cs.size := by omega
        have e : cs[i]? = some (cs.toList.getD i Go.undef) := by
          rw [List.getD_eq_getElem?_getD, Array.getElem?_toList, Array.getElem?_eq_getElem hlt]; rfl
        refine V (Instr.extract (a.eval x) i) (by simp only [execOp, hop]) ⟨cs.toList.getD i Go.undef, w, ?_, h.gives (x := y) ?_ (fun l ver hl => ?_) ⟨rfl, hk⟩⟩
        · rw [hcs]; simp only [Instr.extract, e, Sem.run_pure]
        · have := h2 i hi1
          rwa [hi2] at this
        · exact hxl l ver (by simp only [labs]; exact mem_labsL hi1 (by rw [hi2]; exact hl))
    · exact hk.elim
  | call c =>
    rw [hop] at hk
    have BI : ∀ (b : Builtin) (s : Sem Value), c.callee = .builtin b → (∀ cs, builtin b c.argTypes o.type cs (c.args.map a.eval) = (do pure (.value (← s)) : Sem Next)) → Runs B N a (fun x ts' m' => ts' = ts ∧ k x m') (s.run P w) → o.wp P a w next Q := by
      intro b s hc hb hr
      refine V s ?_ hr
      simp only [execOp, hop, resolve, hc, pure_bind, invoke, hb]
    have ha : ∀ l, c.args.toList = l → c.args.map a.eval = (l.map a.eval).toArray := by
      intro l hl
      apply Array.ext'; simp [← hl]
    have hk : (match c.callee, c.args.toList with
      | .builtin .len, [x] => match c.argTypes.toList with | t :: _ => sTI (tiOf P t) fun ti => sLen ti.kind m (Vc.ev ts x) fun v => k v m | [] => False
      | .builtin .max, [x, y] => sMax (Vc.ev ts x) (Vc.ev ts y) fun v => k v m
      | .builtin .min, [x, y] => sMin (Vc.ev ts x) (Vc.ev ts y) fun v => k v m
      | .builtin .append, [x, y] => sAppT P c.argTypes.toList (o.dst.getD 0) (Vc.ev ts x) (Vc.ev ts y) m k
      | .value (.func f), xs => sCall P f (o.dst.getD 0) (xs.map (Vc.ev ts)) m k
      | .value (.tmp t), xs => sCallV P (look ts t) (o.dst.getD 0) (xs.map (Vc.ev ts)) m k
      | _, _ => False) := hk
    split at hk
    · rename_i x hc hx
      split at hk
      · rename_i t r hty
        obtain ⟨ti, ht, hk⟩ := sTI_out hk
        have hr := run_len (ty := o.type) ht h (h.ev x) hk
        refine BI _ (Builtin.len_ c.argTypes o.type (c.args.map a.eval)) hc (fun _ => rfl) ?_
        have e0 : c.argTypes = (t :: r).toArray := by apply Array.ext'; simpa using hty
        have el : (Builtin.len_ c.argTypes o.type (c.args.map a.eval)).run P w = (Builtin.len_ #[t] o.type #[a.eval x]).run P w := by
          rw [ha _ hx, e0]
          simp [Builtin.len_]
        rw [el]
        exact hr.mono fun x ts m ⟨h1, h2, h3⟩ => ⟨h1, by rw [h2]; exact h3⟩
      · exact hk.elim
    · rename_i x y hc hx
      have h1 := h.ev x
      have h2 := h.ev y
      unfold sMax at hk
      split at hk
      · rename_i i p j q e1 e2
        rw [e1] at h1; rw [e2] at h2
        obtain ⟨g1, _⟩ := rv_val h1
        obtain ⟨g2, _⟩ := rv_val h2
        refine BI _ (Builtin.max_ c.argTypes o.type (c.args.map a.eval)) hc (fun _ => rfl) ⟨_, w, ?_, h.givesV rfl ⟨rfl, hk⟩⟩
        rw [ha _ hx]
        simp [Builtin.max_, ← g1, ← g2, Builtin.max2]
      · exact hk.elim
    · rename_i x y hc hx
      have h1 := h.ev x
      have h2 := h.ev y
      unfold sMin at hk
      split at hk
      · rename_i i p j q e1 e2
        rw [e1] at h1; rw [e2] at h2
        obtain ⟨g1, _⟩ := rv_val h1
        obtain ⟨g2, _⟩ := rv_val h2
        refine BI _ (Builtin.min_ c.argTypes o.type (c.args.map a.eval)) hc (fun _ => rfl) ⟨_, w, ?_, h.givesV rfl ⟨rfl, hk⟩⟩
        rw [ha _ hx]
        simp [Builtin.min_, ← g1, ← g2, Builtin.min2]
      · exact hk.elim
    · rename_i x y hc hx
      unfold sAppT at hk
      split at hk
      · rename_i t t' htys
        obtain ⟨tt, htt, hk⟩ := sTI_out hk
        obtain ⟨hks, hk⟩ := sSl_out hk
        obtain ⟨tt', htt', hk⟩ := sTI_out hk
        obtain ⟨hks', hk⟩ := sSl_out hk
        obtain ⟨ti, ht, hk⟩ := sTI_out hk
        have et : c.argTypes = #[t, t'] := by apply Array.ext'; simpa using htys
        refine BI _ (Builtin.append_ c.argTypes o.type (c.args.map a.eval)) hc (fun _ => rfl) ?_
        rw [ha _ hx, et]
        exact run_app htt hks htt' hks' ht h (h.ev x) (h.ev y) (h.evL x) _ hk
      · exact hk.elim
    · rename_i f hc
      obtain ⟨⟨fn, cd, hf, hnm, hbd⟩, hcalls⟩ := call_sound (vs := c.args.map a.eval) h (by simpa using evs_RdL h c.args.toList) (fun i hi l ver hl => by
        rw [List.getElem_map] at hl; exact h.evL _ l ver hl) hk
      have hex : (execOp a.eval o).run P w = .ok (.enter f (c.args.map a.eval)) w := by
        have hnm' : ¬ fn.name = "runtime.NumGoroutine" := by simpa using hnm
        simp [execOp, hop, resolve, hc, Act.eval, Deferred.ofValue, invoke, callFunc, hf, hnm', hbd]
      unfold Oper.wp
      rw [hex, Oper.upon_enter]
      refine hcalls.mono ?_
      rintro e w' ⟨v, rfl, hg⟩
      exact hnext v w' hg
    · rename_i t hc
      unfold sCallV at hk
      split at hk
      · rename_i f ys hf0
        have hx := h.tm t
        rw [hf0] at hx
        obtain ⟨cs, hcs, hl, hy⟩ := rv_clo hx
        have hap : RdL (RV w S φ) (c.args.toList.map (Vc.ev ts) ++ ys) (c.args.map a.eval ++ cs).toList := by
          have h1 := evs_RdL h c.args.toList
          refine ⟨by simp [hl], fun i hi => ?_⟩
          rw [Array.toList_append, Array.toList_map, List.getElem_append]
          split
          · rename_i hi1
            have := h1.2 i hi1
            rw [List.getD_eq_getElem?_getD] at this ⊢
            rw [List.getElem?_append_left (by simpa using hi1)]
            exact this
          · rename_i hi1
            have hi2 : i - (c.args.toList.map (Vc.ev ts)).length < ys.length := by rw [List.length_append] at hi; omega
            have := hy _ hi2
            rw [List.getD_eq_getElem?_getD] at this ⊢
            rw [List.getElem?_append_right (by simpa using hi1)]
            simpa using this
        obtain ⟨⟨fn, cd, hf, hnm, hbd⟩, hcalls⟩ := call_sound (vs := c.args.map a.eval ++ cs) h hap (fun i hi l ver hl => by
          rw [List.getElem_append] at hl
          split at hl
          · rw [List.getElem_map] at hl; exact h.evL _ l ver hl
          · exact h.tl t l ver (by rw [hf0]; simp only [labs]; exact mem_labsL (by rw [List.length_append] at hi; omega) hl)) hk
        have hex : (execOp a.eval o).run P w = .ok (.enter f (c.args.map a.eval ++ cs)) w := by
          have hnm' : ¬ fn.name = "runtime.NumGoroutine" := by simpa using hnm
          have hcs' : a.tmps.getD t Go.undef = .func (.func f) #[] cs := hcs
          simp [execOp, hop, resolve, hc, Act.eval, hcs', Deferred.ofValue, invoke, callFunc, hf, hnm', hbd]
        unfold Oper.wp
        rw [hex, Oper.upon_enter]
        refine hcalls.mono ?_
        rintro e w' ⟨v, rfl, hg⟩
        exact hnext v w' hg
      · exact hk.elim
    · exact hk.elim
  | makeFunc fn first caps =>
    rw [hop] at hk
    cases fn with
    | func f =>
      obtain ⟨h1, hk⟩ : first.toList = [] ∧ k (.clo f (caps.toList.map (Vc.ev ts))) m := hk
      have h1' : first = #[] := by apply Array.ext'; simpa using h1
      subst h1'
      have hr := evs_RdL h caps.toList
      refine V (Instr.makeFunc (.func f) (Array.map a.eval #[]) (caps.map a.eval)) (by simp only [execOp, hop]) ⟨.func (.func f) #[] (caps.map a.eval), w, by simp [Instr.makeFunc], h.gives (x := .clo f (caps.toList.map (Vc.ev ts))) ?_ (fun l ver hl => ?_) ⟨rfl, hk⟩⟩
      · exact .clo f _ _ (by simp) (by simpa using hr.2)
      · simp only [labs] at hl
        obtain ⟨i, hi, hl2⟩ := of_mem_labsL hl
        rw [List.getElem_map] at hl2
        exact h.evL _ l ver hl2
    | _ => exact False.elim hk
  | _ => rw [hop] at hk; exact hk.elim

end
end Go.Vc
