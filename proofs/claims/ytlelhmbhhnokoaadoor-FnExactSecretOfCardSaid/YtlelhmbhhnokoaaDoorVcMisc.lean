/-
  Slice expressions, addresses of fields and elements, lengths, built structs and slices.
-/
import Derived.Test.YtlelhmbhhnokoaaDoorVcAppend
set_option linter.unusedVariables false
set_option linter.unusedSimpArgs false
set_option linter.unnecessarySimpa false
namespace Go.Vc

def sBnd (x : Option AV) (d : Int) (k : Int → Prop) : Prop := match x with
  | none => k d
  | some (.val (.int _ i)) => k i
  | _ => False
@[congr] theorem sBnd_congr {x x' : Option AV} {d : Int} {k : Int → Prop} (h : x = x') : sBnd x d k = sBnd x' d k := by rw [h]
theorem sBnd_none (d : Int) (k : Int → Prop) : sBnd none d k = k d := rfl
theorem sBnd_some (j : IntKind) (i d : Int) (k : Int → Prop) : sBnd (some (.val (.int j i))) d k = k i := rfl

def sRSh (sh : Sh) (v : Nat) (b : Option Blk) (k : Prop) : Prop := match b with | some (.row v' sh' _ _) => v' = v ∧ sh' = sh ∧ k | _ => False
@[congr] theorem sRSh_congr {sh : Sh} {v : Nat} {b b' : Option Blk} {k : Prop} (h : b = b') : sRSh sh v b k = sRSh sh v b' k := by rw [h]
theorem sRSh_row (sh : Sh) (v : Nat) (d : Bool) (xs : List AV) (k : Prop) : sRSh sh v (some (.row v sh d xs)) k = k := by simp [sRSh]
/-- x[lo:hi] -/
def sSlice (sh : Sh) (x : AV) (lo hi : Option AV) (m : Mem) (k : AV → Prop) : Prop := match x with
  | .val (.string s) => sBnd lo 0 fun l => sBnd hi s.size fun h => (0 ≤ l ∧ l ≤ h ∧ h ≤ s.size) ∧ k (.val (.string (s.extract l.toNat h.toNat)))
  | .arr sh' xs => sBnd lo 0 fun l => sBnd hi xs.length fun h => (0 ≤ l ∧ l ≤ h ∧ h ≤ xs.length) ∧ sh' = sh ∧ k (.arr sh ((xs.drop l.toNat).take (h.toNat - l.toNat)))
  | .ref r v i n => sRSh sh v (lookB m r) (sBnd lo 0 fun l => sBnd hi n fun h => (0 ≤ l ∧ l ≤ h ∧ h ≤ n) ∧ k (.ref r v (i + l.toNat) (h.toNat - l.toNat)))
  | _ => False
@[congr] theorem sSlice_congr {sh : Sh} {x x' : AV} {lo hi lo' hi' : Option AV} {m : Mem} {k : AV → Prop} (h : x = x') (h1 : lo = lo') (h2 : hi = hi') : sSlice sh x lo hi m k = sSlice sh x' lo' hi' m k := by rw [h, h1, h2]
theorem sSlice_str (sh : Sh) (s : ByteArray) (lo hi : Option AV) (m : Mem) (k : AV → Prop) :
    sSlice sh (.val (.string s)) lo hi m k = sBnd lo 0 fun l => sBnd hi s.size fun h => (0 ≤ l ∧ l ≤ h ∧ h ≤ s.size) ∧ k (.val (.string (s.extract l.toNat h.toNat))) := rfl
theorem sSlice_arr (sh : Sh) (xs : List AV) (lo hi : Option AV) (m : Mem) (k : AV → Prop) :
    sSlice sh (.arr sh xs) lo hi m k = sBnd lo 0 fun l => sBnd hi xs.length fun h => (0 ≤ l ∧ l ≤ h ∧ h ≤ xs.length) ∧ k (.arr sh ((xs.drop l.toNat).take (h.toNat - l.toNat))) := by simp [sSlice]
theorem sSlice_ref (sh : Sh) (r v i n : Nat) (lo hi : Option AV) (m : Mem) (k : AV → Prop) :
    sSlice sh (.ref r v i n) lo hi m k = sRSh sh v (lookB m r) (sBnd lo 0 fun l => sBnd hi n fun h => (0 ≤ l ∧ l ≤ h ∧ h ≤ n) ∧ k (.ref r v (i + l.toNat) (h.toNat - l.toNat))) := rfl
/-- x[:0:0] -/
def sSlice0 (m : Mem) (x : AV) (k : AV → Prop) : Prop := match x with
  | .arr _ _ => k .e0
  | .ref l v _ _ => sLive v (lookB m l) (k .e0)
  | x => isNil x = true ∧ k .e0
@[congr] theorem sSlice0_congr {m : Mem} {x x' : AV} {k : AV → Prop} (h : x = x') : sSlice0 m x k = sSlice0 m x' k := by rw [h]
theorem sSlice0_arr (m : Mem) (sh : Sh) (xs : List AV) (k : AV → Prop) : sSlice0 m (.arr sh xs) k = k .e0 := rfl
theorem sSlice0_ref (m : Mem) (l v i n : Nat) (k : AV → Prop) : sSlice0 m (.ref l v i n) k = sLive v (lookB m l) (k .e0) := rfl
theorem sSlice0_e0 (m : Mem) (k : AV → Prop) : sSlice0 m .e0 k = k .e0 := by simp [sSlice0, isNil]
theorem sSlice0_nil (m : Mem) (k : AV → Prop) : sSlice0 m (.val (.slice none 0 0)) k = k .e0 := by simp [sSlice0, isNil]

section
variable {P : Program} {B : Base} {N : Nat} {φ : Nat → LS} {fp : Nat → List Nat} {S : Nat → Prop} {ts : Env} {m : Mem} {a : Act} {w : World}

/-- A bound of a slice expression, read. -/
def BV (w : World) (S : Nat → Prop) (φ : Nat → LS) (x : Option AV) (v : Option Value) : Prop := match x, v with
  | none, none => True
  | some x, some v => RV w S φ x v
  | _, _ => False

theorem sBnd_out {x : Option AV} {v : Option Value} (hx : BV w S φ x v) {d : Int} {k : Int → Prop} (h : sBnd x d k) : ∃ i, k i ∧ ((v = none ∧ i = d) ∨ ∃ j, v = some (.int j i)) := by
  unfold sBnd at h
  split at h
  · cases v with
    | none => exact ⟨d, h, .inl ⟨rfl, rfl⟩⟩
    | some v => exact hx.elim
  · cases v with
    | none => exact hx.elim
    | some v => obtain ⟨rfl, _⟩ := rv_val hx; exact ⟨_, h, .inr ⟨_, rfl⟩⟩
  · exact h.elim

theorem run_slice_str {t : TypeId} (ht : P.underlying t = some .string) {s : ByteArray} {lo hi : Option Value} {l h : Int} (hl : (lo = none ∧ l = 0) ∨ ∃ j, lo = some (.int j l)) (hh : (hi = none ∧ h = s.size) ∨ ∃ j, hi = some (.int j h))
    (h0 : 0 ≤ l) (h1 : l ≤ h) (h2 : h ≤ s.size) (w : World) : (Instr.slice t (.string s) lo hi none).run P w = .ok (.string (s.extract l.toNat h.toNat)) w := by
  have eh : (h.toNat : Int) = h := Int.toNat_of_nonneg (by omega)
  have hh0 : 0 ≤ h := by omega
  rcases hl with ⟨rfl, rfl⟩ | ⟨j, rfl⟩ <;> rcases hh with ⟨rfl, rfl⟩ | ⟨j', rfl⟩ <;>
    simp [Instr.slice, run_underlying ht, Instr.sliceBounds, run_sliceBound, *]

theorem run_slice_row {t e : TypeId} {ti : TI} (ht : P.underlying t = some (.slice e)) (he : tiOf P e = some ti) {ad : Option Addr} {len cap : Nat} {lo hi : Option Value} {l h : Int} (hl : (lo = none ∧ l = 0) ∨ ∃ j, lo = some (.int j l))
    (hh : (hi = none ∧ h = len) ∨ ∃ j, hi = some (.int j h)) (h0 : 0 ≤ l) (h1 : l ≤ h) (h2 : h ≤ cap) (w : World) :
    (Instr.slice t (.slice ad len cap) lo hi none).run P w = .ok (.slice (if cap = l.toNat then ad else ad.map (·.add (l.toNat * ti.size))) (h.toNat - l.toNat) (cap - l.toNat)) w := by
  have eh : (h.toNat : Int) = h := Int.toNat_of_nonneg (by omega)
  have hh0 : 0 ≤ h := by omega
  have hs := sizeOf_run he w
  rcases hl with ⟨rfl, rfl⟩ | ⟨j, rfl⟩ <;> rcases hh with ⟨rfl, rfl⟩ | ⟨j', rfl⟩ <;>
    simp [Instr.slice, run_underlying ht, Instr.sliceBounds, run_sliceBound, *]

theorem run_slice' {t : TypeId} {tt : TI} (htt : tiOf P t = some tt) (sh : Sh) (he : tt.kind = .slice → ∃ ti, tiOf P tt.elem = some ti ∧ ti.sh = sh) (hkd : tt.kind = .slice ∨ tt.kind = .string) (h : RS B N φ fp S ts m a w)
    {x : AV} {u : Value} {lo hi : Option AV} {vl vh : Option Value} (hx : RV w S φ x u) (hxl : ∀ l ver, (l, ver) ∈ labs x → known m l ver) (hlo : BV w S φ lo vl) (hhi : BV w S φ hi vh)
    (hm : tt.kind = .slice ↔ ∀ s, x ≠ .val (.string s)) {k : AV → Prop} (hk : sSlice sh x lo hi m k) :
    Runs B N a (fun x ts' m' => ts' = ts ∧ m' = m ∧ k x) ((Instr.sliceAt t u vl vh none).run P w) := by
  have harr : ∀ n e, P.underlying t ≠ some (.array n e) := by
    intro n e hc
    rcases hkd with hk | hk
    · rw [kind_slice htt hk] at hc; cases hc
    · rw [kind_string htt hk] at hc; cases hc
  have hsa : (Instr.sliceAt t u vl vh none).run P w = (Instr.slice t u vl vh none).run P w := by
    unfold Instr.sliceAt
    rcases hkd with hk | hk
    · simp [run_underlying (kind_slice htt hk)]
    · simp [run_underlying (kind_string htt hk)]
  rw [hsa]
  unfold sSlice at hk
  split at hk
  · rename_i s
    obtain ⟨l, hk, hvl⟩ := sBnd_out hlo hk
    obtain ⟨hh, ⟨⟨h0, h1, h2⟩, hk⟩, hvh⟩ := sBnd_out hhi hk
    obtain ⟨rfl, _⟩ := rv_val hx
    have hks : tt.kind = .string := hkd.resolve_left fun hc => hm.1 hc s rfl
    exact ⟨_, w, run_slice_str (kind_string htt hks) hvl hvh h0 h1 h2 w, h.givesV rfl ⟨rfl, rfl, hk⟩⟩
  · rename_i sh' xs
    obtain ⟨l, hk, hvl⟩ := sBnd_out hlo hk
    obtain ⟨hh, ⟨⟨h0, h1, h2⟩, rfl, hk⟩, hvh⟩ := sBnd_out hhi hk
    have hks : tt.kind = .slice := hm.2 (fun s hc => by cases hc)
    obtain ⟨ti, hti, hts⟩ := he hks
    subst hts
    cases rv_arr hx with
    | nil _ ad =>
      have e1 : l = 0 := by simp at h2; omega
      have e2 : hh = 0 := by simp at h2; omega
      subst e1; subst e2
      refine ⟨_, w, run_slice_row (kind_slice htt hks) hti hvl hvh (by omega) (by omega) (by simp) w, h.gives (x := .arr ti.sh []) ?_ (fun _ _ hl => by cases hl) ⟨rfl, rfl, by simpa using hk⟩⟩
      simp
      exact .rd _ _ (.nil _ _)
    | arr _ _ b off cap cs e fr hSb hb hcap hl hf hv =>
      refine ⟨_, w, run_slice_row (kind_slice htt hks) hti hvl hvh h0 h1 (by omega) w, h.gives ?_ (fun _ _ hl => by cases hl) ⟨rfl, rfl, hk⟩⟩
      refine .rd _ _ ?_
      have hlen : ((xs.drop l.toNat).take (hh.toNat - l.toNat)).length = hh.toNat - l.toNat := by simp; omega
      by_cases hc : cap = l.toNat
      · rw [if_pos hc]
        have e0 : hh.toNat - l.toNat = 0 := by omega
        rw [e0, List.take_zero, hc, Nat.sub_self]
        exact .nil _ _
      · rw [if_neg hc]
        have hmul : l.toNat * ti.sh.sz + (hh.toNat - l.toNat) * ti.sh.sz ≤ xs.length * ti.sh.sz := by
          rw [← Nat.add_mul]; exact Nat.mul_le_mul_right _ (by omega)
        have := Rd.arr (w := w) (S := S) ti.sh ((xs.drop l.toNat).take (hh.toNat - l.toNat)) b (off + l.toNat * ti.sh.sz) (cap - l.toNat) cs e fr hSb hb (by omega) (by rw [hlen]; omega)
          (fun i hi => by rw [hlen] at hi; simp only [List.getElem_take, List.getElem_drop]; exact hf _ (by omega))
          (fun i hi => by
            rw [hlen] at hi
            simp only [List.getElem_take, List.getElem_drop]
            have := hv (l.toNat + i) (by omega)
            rwa [Nat.add_mul, ← Nat.add_assoc] at this)
        rw [hlen] at this
        simpa [Addr.add_none, TI.sh] using this
  · rename_i r ver i n
    unfold sRSh at hk
    split at hk
    · rename_i v' sh' deep xs hlk
      obtain ⟨rfl, rfl, hk⟩ := hk
      obtain ⟨l, hk, hvl⟩ := sBnd_out hlo hk
      obtain ⟨hh, ⟨⟨h0, h1, h2⟩, hk⟩, hvh⟩ := sBnd_out hhi hk
      have hks : tt.kind = .slice := hm.2 (fun s hc => by cases hc)
      obtain ⟨ti, hti, hts⟩ := he hks
      subst hts
      have hr := rv_ref hx
      have hkn := hxl r v' (by simp [labs])
      have hlab : ∀ l' ver, (l', ver) ∈ labs (.ref r v' (i + l.toNat) (hh.toNat - l.toNat)) → known m l' ver := by
        intro l' ver hl'
        simp only [labs, List.mem_singleton, Prod.mk.injEq] at hl'
        obtain ⟨rfl, rfl⟩ := hl'
        exact hkn
      rcases h.mSome r _ hlk with ⟨g1, g2, g3⟩ | ⟨b, cap0, hφ, hbm, hdp, hown⟩
      · obtain ⟨rfl, ad, rfl⟩ := hr.2 g1
        have e1 : l = 0 := by omega
        have e2 : hh = 0 := by omega
        subst e1; subst e2
        refine ⟨_, w, run_slice_row (kind_slice htt hks) hti hvl hvh (by omega) (by omega) (by simp) w, h.gives ?_ hlab ⟨rfl, rfl, hk⟩⟩
        refine .ref _ _ _ _ _ (fun b sh hb => by rw [g1] at hb; cases hb) (fun _ => ⟨by simp, ad, by simp⟩) rfl
      · obtain ⟨ad, cap, rfl, hnc, hcp⟩ := hr.1 b _ hφ
        refine ⟨_, w, run_slice_row (kind_slice htt hks) hti hvl hvh h0 h1 (by omega) w, h.gives ?_ hlab ⟨rfl, rfl, hk⟩⟩
        refine .ref _ _ _ _ _ (fun b' sh' hb' => ?_) (fun hb' => by rw [hφ] at hb'; cases hb') rfl
        rw [hφ] at hb'; cases hb'
        refine ⟨_, cap - l.toNat, rfl, by omega, ?_⟩
        by_cases hc : cap = l.toNat
        · exact .inl (by omega)
        · right
          obtain ⟨rfl, cs, e, q1, q2⟩ := hcp.resolve_left (by omega)
          refine ⟨?_, cs, e, q1, by rw [q2]; congr 1; omega⟩
          rw [if_neg hc]
          simp only [Option.map_some, Addr.add_none, Nat.add_mul]
          rfl
    · exact hk.elim
  · exact hk.elim

end
end Go.Vc
