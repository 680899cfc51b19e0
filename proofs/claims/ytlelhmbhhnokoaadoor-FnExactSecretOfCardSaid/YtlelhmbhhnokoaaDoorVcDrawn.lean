/-
  The rule for a region that draws its order.
-/
import Derived.Test.YtlelhmbhhnokoaaDoorVcSched
import Derived.StillTail
set_option linter.unusedVariables false
set_option linter.unusedSimpArgs false
set_option linter.unnecessarySimpa false
namespace Go.Vc

section
variable {P : Program} {B : Base} {N : Nat} {φ : Nat → LS} {fp : Nat → List Nat} {S : Nat → Prop} {ts : Env} {m : Mem} {a : Act} {w : World}

theorem RS.ext (h : RS B N φ fp S ts m a w) {ts' : Env} {m' : Mem} (ht : ∀ t, look ts' t = look ts t) (hm : ∀ l, lookB m' l = lookB m l) : RS B N φ fp S ts' m' a w := by
  have hk : ∀ l ver, known m l ver → known m' l ver := fun l ver ⟨k, h1, h2⟩ => ⟨k, (hm l).trans h1, h2⟩
  exact { h with
    kn := fun l ver hl hk => by obtain ⟨k, h1, h2⟩ := h.kn l ver hl hk; exact ⟨k, (hm l).trans h1, h2⟩
    tm := fun t => by rw [ht t]; exact h.tm t
    tl := fun t l ver hl => hk l ver (h.tl t l ver (by rw [← ht t]; exact hl))
    mNone := fun l hl => h.mNone l ((hm l).symm.trans hl)
    mSome := fun l k hl => h.mSome l k ((hm l).symm.trans hl)
    bl := fun l v xs hl l' ver hlv => hk l' ver (h.bl l v xs ((hm l).symm.trans hl) l' ver hlv) }

variable {os : Nat → Oper} {qs : Nat → Rec} {D D' : Nat → Bool} {ops : List Oper} {tr : List (List Nat × List Nat)}

theorem Stt_keep {lo : Nat} {t : Nat} : ∀ (hi : Nat), lo ≤ hi → (∀ i, lo ≤ i → i < hi → D i = true → (os i).dst ≠ some t) → look (Stt os qs D ts m hi).1 t = look (Stt os qs D ts m lo).1 t
  | 0, hl, _ => by rw [show lo = 0 by omega]
  | hi + 1, hl, h => by
    by_cases e : lo = hi + 1
    · rw [e]
    · have ih := Stt_keep hi (by omega) fun i h1 h2 => h i h1 (by omega)
      simp only [Stt]
      cases hd : D hi with
      | false => simpa using ih
      | true =>
        simp only [if_true, look_putE]
        rw [if_neg (h hi (by omega) (by omega) hd)]
        exact ih
theorem Stt_keepB {lo : Nat} {l : Nat} : ∀ (hi : Nat), lo ≤ hi → (∀ i, lo ≤ i → i < hi → D i = true → l ∉ (qs i).new.map (·.1)) → lookB (Stt os qs D ts m hi).2 l = lookB (Stt os qs D ts m lo).2 l
  | 0, hl, _ => by rw [show lo = 0 by omega]
  | hi + 1, hl, h => by
    by_cases e : lo = hi + 1
    · rw [e]
    · have ih := Stt_keepB hi (by omega) fun i h1 h2 => h i h1 (by omega)
      simp only [Stt]
      cases hd : D hi with
      | false => simpa using ih
      | true =>
        simp only [if_true]
        rw [lookB_new (h hi (by omega) (by omega) hd)]
        exact ih

/-- What one run in the order of the text has shown. -/
structure Ran (P : Program) (ops : List Oper) (os : Nat → Oper) (qs : Nat → Rec) (tr : List (List Nat × List Nat)) (ts : Env) (m : Mem) : Prop where
  oe : ∀ i o, ops[i]? = some o → os i = o
  ya : ∀ i o, ops[i]? = some o → ∃ t, tr[i]? = some t ∧ YA P ops o (qs i) t.1 (Stt os qs (fun _ => true) ts m i).1 (Stt os qs (fun _ => true) ts m i).2 ∧ ∀ l, l ∈ (qs i).new.map (·.1) → l ∈ t.2

def addD (D : Nat → Bool) (j : Nat) : Nat → Bool := fun i => D i || i == j

theorem Closed.add {j : Nat} {o : Oper} (h : Closed ops D) (ho : ops[j]? = some o) (hp : ∀ i, i ∈ preds o → D i = true) : Closed ops (addD D j) := by
  intro k o' hk hd i hi
  simp only [addD, Bool.or_eq_true, beq_iff_eq] at hd ⊢
  rcases hd with hd | rfl
  · exact .inl (h k o' hk hd i hi)
  · rw [ho] at hk; injection hk with hk; subst hk; exact .inl (hp i hi)

/-- An operation whose turn has come has the outcome that it has in the order of the text. -/
theorem Ran.turn (hR : Ran P ops os qs tr ts m) (hB : drawB ops tr = true) (hD : Closed ops D) (hn : ∀ i, D i = true → i < ops.length) {j : Nat} {o : Oper} (ho : ops[j]? = some o) (hj : D j = false)
    (hp : ∀ i, i ∈ preds o → D i = true) :
    (∃ rd, YA P ops o (qs j) rd (Stt os qs D ts m ops.length).1 (Stt os qs D ts m ops.length).2) ∧
    (∀ t, look (Stt os qs (addD D j) ts m ops.length).1 t = look (putE o.dst (qs j).x (Stt os qs D ts m ops.length).1) t) ∧
    (∀ l, lookB (Stt os qs (addD D j) ts m ops.length).2 l = lookB ((qs j).new ++ (Stt os qs D ts m ops.length).2) l) := by
  have hjn : j < ops.length := (List.getElem?_eq_some_iff.1 ho).1
  obtain ⟨t, ht, hya, hnew⟩ := hR.ya j o ho
  have hoj := hR.oe j o ho
  have hget : ∀ i, i < ops.length → ∃ (oi : Oper) (ti : List Nat × List Nat), ops[i]? = some oi ∧ os i = oi ∧ tr[i]? = some ti ∧ ∀ l, l ∈ (qs i).new.map (·.1) → l ∈ ti.2 := by
    intro i hi
    have h1 : ops[i]? = some ops[i] := List.getElem?_eq_getElem hi
    obtain ⟨ti, h2, _, h3⟩ := hR.ya i _ h1
    exact ⟨_, ti, h1, hR.oe i _ h1, h2, h3⟩
  have early : ∀ i, i < j → D i = false → ∃ (oi : Oper) (ti : List Nat × List Nat), os i = oi ∧ (∀ l, l ∈ (qs i).new.map (·.1) → l ∈ ti.2) ∧ ApartI ops oi o ti.1 t.1 ti.2 t.2 := by
    intro i hi hdi
    obtain ⟨oi, ti, h1, h2, h3, h4⟩ := hget i (by omega)
    refine ⟨oi, ti, h2, h4, drawB_out hB (hD.add ho hp) hi h1 ho h3 ht fun hh => ?_⟩
    have := hh (by simp [addD])
    simp only [addD, hdi, Bool.false_or, beq_iff_eq] at this
    omega
  have late : ∀ i, j < i → D i = true → ∃ (oi : Oper) (ti : List Nat × List Nat), os i = oi ∧ (∀ l, l ∈ (qs i).new.map (·.1) → l ∈ ti.2) ∧ ApartI ops o oi t.1 ti.1 t.2 ti.2 := by
    intro i hi hdi
    obtain ⟨oi, ti, h1, h2, h3, h4⟩ := hget i (hn i hdi)
    refine ⟨oi, ti, h2, h4, drawB_out hB hD hi ho h1 ht h3 fun hh => ?_⟩
    have := hh hdi
    rw [hj] at this; cases this
  have hpre : Stt os qs (fun _ => true) ts m j = Stt os qs (fun i => decide (i < j)) ts m ops.length := by
    rw [Stt_stop (j := j) (fun q hq => by simp; omega) ops.length (by omega)]
    exact Stt_prefix j (Nat.le_refl _) fun q hq => by simp [hq]
  rw [hpre] at hya
  refine ⟨⟨t.1, hya.local (fun u hu => ?_) (fun l hl => ?_) (fun l hl => ?_)⟩, fun u => ?_, fun l => ?_⟩
  · refine Stt_look ops.length 0 (Nat.zero_le _) (fun i _ hi hne => ?_) rfl
    rcases Nat.lt_trichotomy i j with h | h | h
    · simp only [h, decide_true] at hne
      obtain ⟨oi, ti, h1, h2, h3⟩ := early i h (by simpa using hne)
      rw [h1]
      exact fun hd => h3.t1 _ hd hu
    · subst h; simp [hj] at hne
    · have : decide (i < j) = false := by simp; omega
      rw [this] at hne
      obtain ⟨oi, ti, h1, h2, h3⟩ := late i h (by simpa using hne)
      rw [h1]
      exact fun hd => h3.t2 _ hd hu
  · refine Stt_lookB ops.length 0 (Nat.zero_le _) (fun i _ hi hne => ?_) rfl
    rcases Nat.lt_trichotomy i j with h | h | h
    · simp only [h, decide_true] at hne
      obtain ⟨oi, ti, h1, h2, h3⟩ := early i h (by simpa using hne)
      exact fun hd => h3.l1 _ (h2 l hd) hl
    · subst h; simp [hj] at hne
    · have : decide (i < j) = false := by simp; omega
      rw [this] at hne
      obtain ⟨oi, ti, h1, h2, h3⟩ := late i h (by simpa using hne)
      exact fun hd => h3.l2 _ (h2 l hd) hl
  · refine Stt_lookB ops.length 0 (Nat.zero_le _) (fun i _ hi hne => ?_) rfl
    rcases Nat.lt_trichotomy i j with h | h | h
    · simp only [h, decide_true] at hne
      obtain ⟨oi, ti, h1, h2, h3⟩ := early i h (by simpa using hne)
      exact fun hd => h3.l3 _ (h2 l hd) (hnew l hl)
    · subst h; simp [hj] at hne
    · have : decide (i < j) = false := by simp; omega
      rw [this] at hne
      obtain ⟨oi, ti, h1, h2, h3⟩ := late i h (by simpa using hne)
      exact fun hd => h3.l3 _ (hnew l hl) (h2 l hd)
  · rw [look_putE]
    by_cases hd : o.dst = some u
    · rw [if_pos hd]
      rw [Stt_keep (lo := j + 1) ops.length hjn fun i h1 h2 h3 => by
        have hdi : D i = true := by
          simp only [addD, Bool.or_eq_true, beq_iff_eq] at h3
          exact h3.resolve_right (by omega)
        obtain ⟨oi, ti, g1, _, g3⟩ := late i h1 hdi
        rw [g1]
        exact g3.t3 u hd]
      simp only [Stt, addD, beq_self_eq_true, Bool.or_true, if_true, look_putE, hoj, hd]
    · rw [if_neg hd]
      refine Stt_look ops.length 0 (Nat.zero_le _) (fun i _ hi hne => ?_) rfl
      have : i = j := by
        by_cases e : i = j
        · exact e
        · have : (i == j) = false := by simpa using e
          simp [addD, this] at hne
      subst this
      rw [hoj]; exact hd
  · by_cases hd : l ∈ (qs j).new.map (·.1)
    · rw [Stt_keepB (lo := j + 1) ops.length hjn fun i h1 h2 h3 => by
        have hdi : D i = true := by
          simp only [addD, Bool.or_eq_true, beq_iff_eq] at h3
          exact h3.resolve_right (by omega)
        obtain ⟨oi, ti, g1, g2, g3⟩ := late i h1 hdi
        exact fun hl => g3.l3 l (hnew l hd) (g2 l hl)]
      simp only [Stt, addD, beq_self_eq_true, Bool.or_true, if_true]
      exact lookB_new_of hd
    · rw [lookB_new hd]
      refine Stt_lookB ops.length 0 (Nat.zero_le _) (fun i _ hi hne => ?_) rfl
      have : i = j := by
        by_cases e : i = j
        · exact e
        · have : (i == j) = false := by simpa using e
          simp [addD, this] at hne
      subst this
      exact hd

theorem wanted_of (h : RS B N φ fp S ts m a w) (hgs : guardsOk N ops = true) {j : Nat} {o : Oper} (ho : ops[j]? = some o) {b : Bool} (hw : want1 ops o ts = some b) : Region.wanted o (yielded ops.toArray a.tmps) = b := by
  unfold want1 at hw
  unfold Region.wanted
  split at hw
  · rename_i hg; rw [hg]; injection hw
  · rename_i i v hg
    rw [hg]
    split at hw
    · rename_i c hl
      have hgo := List.all_eq_true.1 hgs o (List.mem_of_getElem? ho)
      rw [hg] at hgo
      have hj : ∃ d, ((ops[i]?).bind (·.dst)) = some d ∧ d < N := by
        simp only at hgo
        split at hgo
        · rename_i d hd; exact ⟨d, hd, by simpa using hgo⟩
        · cases hgo
      have hy := yield_of h hl hj
      simp only [hy]
      injection hw
    · rename_i hl
      have hgo := List.all_eq_true.1 hgs o (List.mem_of_getElem? ho)
      rw [hg] at hgo
      have hj : ∃ d, ((ops[i]?).bind (·.dst)) = some d ∧ d < N := by
        simp only at hgo
        split at hgo
        · rename_i d hd; exact ⟨d, hd, by simpa using hgo⟩
        · cases hgo
      have hy := yield_none h hl hj
      simp only [hy]
      injection hw with hw
    · cases hw

theorem countP_lt {f g : Nat → Bool} : ∀ (l : List Nat) (j : Nat), j ∈ l → f j = true → g j = false → (∀ i, g i = true → f i = true) → l.countP g < l.countP f
  | x :: r, j, hj, hf, hg, h => by
    have hle : ∀ l : List Nat, l.countP g ≤ l.countP f := fun l => List.countP_mono_left fun i _ hi => h i hi
    rw [List.countP_cons, List.countP_cons]
    rcases List.mem_cons.1 hj with rfl | hj
    · have := hle r
      simp [hf, hg]; omega
    · have := countP_lt r j hj hf hg h
      have h1 := h x
      cases hgx : g x <;> cases hfx : f x <;> simp_all <;> (try omega)

def unl (n : Nat) (listed : Array Bool) : Nat := (List.range n).countP fun i => !listed.getD i false

theorem any_sound {ts0 : Env} {m0 : Mem} (hR : Ran P ops os qs tr ts0 m0) (hB : drawB ops tr = true) (hok : opsOk N ops = true) (hgs : guardsOk N ops = true) {Q : Exit → Act → World → Prop} {K : St}
    (hK : K (Stt os qs (fun _ => true) ts0 m0 ops.length).1 (Stt os qs (fun _ => true) ts0 m0 ops.length).2) (hQ : ∀ a w, Done B N K a w → Q .normal a w) :
    ∀ (fuel : Nat) (listed : Array Bool) (φ : Nat → LS) (fp : Nat → List Nat) (S : Nat → Prop) (a : Act) (w : World), listed.size = ops.length → Closed ops (fun i => listed.getD i false) → unl ops.length listed ≤ fuel →
      RS B N φ fp S (Stt os qs (fun i => listed.getD i false) ts0 m0 ops.length).1 (Stt os qs (fun i => listed.getD i false) ts0 m0 ops.length).2 a w → wpAny P .any ops.toArray Q fuel listed a w := by
  have hback : ∀ i o, ops[i]? = some o → ∀ p, p ∈ preds o → p < i := by
    intro i o ho p hp
    simp only [drawB, backB, Bool.and_eq_true, List.all_eq_true, List.mem_range] at hB
    have := hB.1 i (List.getElem?_eq_some_iff.1 ho).1
    rw [ho] at this
    simpa using List.all_eq_true.1 this p hp
  have hall : ∀ (listed : Array Bool), listed.size = ops.length → Region.ready .any ops.toArray listed = [] → ∀ i, i < ops.length → listed.getD i false = true := by
    intro listed hs hr i
    induction i using Nat.strongRecOn with
    | ind i ih =>
      intro hi
      cases hl : listed.getD i false with
      | true => rfl
      | false =>
        have ho : ops[i]? = some ops[i] := List.getElem?_eq_getElem hi
        have : i ∈ Region.ready .any ops.toArray listed := mem_ready.2 ⟨getD_in (by omega) hl, ops[i], by simpa using ho, fun e he hb => by
          have hp : e.on ∈ preds ops[i] := List.mem_map.2 ⟨e, List.mem_filter.2 ⟨by simpa using he, hb⟩, rfl⟩
          have hlt := hback i _ ho _ hp
          exact ih e.on hlt (by omega)⟩
        rw [hr] at this; cases this
  have hfin : ∀ (listed : Array Bool) (φ : Nat → LS) (fp : Nat → List Nat) (S : Nat → Prop) (a : Act) (w : World), (∀ i, i < ops.length → listed.getD i false = true) →
      RS B N φ fp S (Stt os qs (fun i => listed.getD i false) ts0 m0 ops.length).1 (Stt os qs (fun i => listed.getD i false) ts0 m0 ops.length).2 a w → Q .normal a w := by
    intro listed φ fp S a w hl h
    have e : Stt os qs (fun i => listed.getD i false) ts0 m0 ops.length = Stt os qs (fun _ => true) ts0 m0 ops.length := Stt_prefix ops.length (Nat.le_refl _) fun q hq => hl q hq
    rw [e] at h
    exact hQ a w ⟨φ, fp, S, _, _, h, hK⟩
  intro fuel
  induction fuel with
  | zero =>
    intro listed φ fp S a w hs hc hf h
    have hl : ∀ i, i < ops.length → listed.getD i false = true := by
      intro i hi
      cases hl : listed.getD i false with
      | true => rfl
      | false =>
        have h0 : unl ops.length listed = 0 := Nat.le_zero.1 hf
        have := List.countP_eq_zero.1 h0 i (List.mem_range.2 hi)
        rw [hl] at this; exact absurd rfl this
    refine ⟨?_, hfin listed φ fp S a w hl h⟩
    cases hr : Region.ready .any ops.toArray listed with
    | nil => rfl
    | cons j r =>
      have hj : j ∈ Region.ready .any ops.toArray listed := by rw [hr]; exact List.mem_cons_self ..
      obtain ⟨h0, o, ho, _⟩ := mem_ready.1 hj
      have hjn : j < ops.length := by simpa using (Array.getElem?_eq_some_iff.1 ho).1
      have := hl j hjn
      rw [getD_both h0] at this; cases this
  | succ fuel ih =>
    intro listed φ fp S a w hs hc hf h
    refine ⟨fun hr => hfin listed φ fp S a w (hall listed hs hr) h, fun j hj => ?_⟩
    obtain ⟨h0, o, ho, hpre⟩ := mem_ready.1 hj
    have hdj : listed.getD j false = false := getD_both h0
    have ho' : ops[j]? = some o := by simpa using ho
    have hjn : j < ops.length := (List.getElem?_eq_some_iff.1 ho').1
    have hp : ∀ i, i ∈ preds o → listed.getD i false = true := by
      intro i hi
      obtain ⟨e, he, rfl⟩ := List.mem_map.1 hi
      obtain ⟨he1, he2⟩ := List.mem_filter.1 he
      exact hpre e (by simpa using he1) he2
    obtain ⟨⟨rd, hya⟩, hlk, hlb⟩ := hR.turn (D := fun i => listed.getD i false) hB hc (fun i hi => by
      rcases Nat.lt_or_ge i listed.size with h' | h'
      · omega
      · rw [Array.getD_eq_getD_getElem?, Array.getElem?_eq_none h'] at hi; cases hi) ho' hdj hp
    have hD' : (fun i => (listed.setIfInBounds j true).getD i false) = addD (fun i => listed.getD i false) j := by
      funext i
      by_cases e : i = j
      · subst e
        simp [addD, hs, hjn]
      · have e2 : (i == j) = false := by simpa using e
        rw [getD_set_ne false (Ne.symm e)]
        simp [addD, e2]
    have hf' : unl ops.length (listed.setIfInBounds j true) ≤ fuel := by
      have : unl ops.length (listed.setIfInBounds j true) < unl ops.length listed := by
        refine countP_lt _ j (List.mem_range.2 hjn) (by simp only [hdj]; rfl) (by simp [hs, hjn]) fun i hi => ?_
        by_cases e : i = j
        · subst e; rw [hdj]; rfl
        · rw [getD_set_ne false (Ne.symm e)] at hi; exact hi
      omega
    have next : ∀ a' w', Done B N (fun ts m => ts = putE o.dst (qs j).x (Stt os qs (fun i => listed.getD i false) ts0 m0 ops.length).1 ∧ m = (qs j).new ++ (Stt os qs (fun i => listed.getD i false) ts0 m0 ops.length).2) a' w' →
        wpAny P .any ops.toArray Q fuel (listed.setIfInBounds j true) a' w' := by
      rintro a' w' ⟨φ', fp', S', ts', m', h', rfl, rfl⟩
      refine ih _ φ' fp' S' a' w' (by simp [hs]) (by rw [hD']; exact hc.add ho' hp) hf' ?_
      rw [hD']
      exact h'.ext hlk hlb
    have hdo : ∀ d, o.dst = some d → d < N := by
      intro d hd
      have := List.all_eq_true.1 hok o (List.mem_of_getElem? ho')
      rw [hd] at this; simpa using this
    unfold wpOp
    simp only [ho]
    rcases hya with ⟨hw, _, hrun⟩ | ⟨hw, hx, hnew⟩
    · rw [wanted_of h hgs ho' hw]
      simp only [if_true]
      refine .inl (op_sound h (sOp_of_D (hrun _ (fun _ _ => rfl) (fun _ _ => rfl) (fun x m' => x = (qs j).x ∧ m' = (qs j).new ++ (Stt os qs (fun i => listed.getD i false) ts0 m0 ops.length).2) ⟨rfl, rfl⟩)) fun v w' hg => ?_)
      exact next _ _ (step_done hdo hg fun x m' ⟨h1, h2⟩ => ⟨by rw [h1], h2⟩)
    · rw [wanted_of h hgs ho' hw]
      simp only [Bool.false_eq_true, if_false]
      refine next _ _ (step_done (k := fun x m' => x = .tup [] ∧ m' = (Stt os qs (fun i => listed.getD i false) ts0 m0 ops.length).2) hdo (h.gives (x := .tup []) (.rd _ _ (.tup [] #[] rfl fun i hi => absurd hi (Nat.not_lt_zero _))) (fun _ _ hl => by cases hl) ⟨rfl, rfl, rfl⟩) fun x m' ⟨h1, h2⟩ => ⟨by rw [h1, hx], by rw [h2, hnew]; rfl⟩)

end
/- ---- one run in the order of the text -/
def wrL (m' m : Mem) : List Nat := (m'.take (m'.length - m.length)).map (·.1)
theorem wrL_new (new m : Mem) : wrL (new ++ m) m = new.map (·.1) := by
  unfold wrL
  rw [List.length_append, Nat.add_sub_cancel, List.take_left']
  rfl

/-- The region in the order of the text; at its end: who meddles with whom. -/
def sD (P : Program) (ops : List Oper) : List Oper → Env → Mem → List (List Nat × List Nat) → St → Prop
  | [], ts, m, tr, k => drawB ops tr.reverse = true ∧ k ts m
  | o :: r, ts, m, tr, k => match o.guard with
    | none => sOpD P (o.dst.getD 0) o.op ts m fun x m' => sD P ops r (putE o.dst x ts) m' ((rdL o.op ts, wrL m' m) :: tr) k
    | some (j, want) => sGuard want (look ts (dstOf ops j)) (sOpD P (o.dst.getD 0) o.op ts m fun x m' => sD P ops r (putE o.dst x ts) m' ((rdL o.op ts, wrL m' m) :: tr) k)
        (sD P ops r (putE o.dst (.tup []) ts) m (([], []) :: tr) k)

theorem mem_keys {new : Mem} {l : Nat} (h : lookB new l ≠ none) : l ∈ new.map (·.1) := by
  induction new with
  | nil => exact absurd rfl h
  | cons p r ih =>
    obtain ⟨k, v⟩ := p
    rw [lookB_cons] at h
    by_cases e : k = l
    · simp [e]
    · rw [if_neg e] at h
      exact List.mem_cons_of_mem _ (ih h)

theorem Stt_qs {os : Nat → Oper} {qs qs' : Nat → Rec} {D : Nat → Bool} {ts : Env} {m : Mem} : ∀ (i : Nat), (∀ j, j < i → qs j = qs' j) → Stt os qs D ts m i = Stt os qs' D ts m i
  | 0, _ => rfl
  | i + 1, h => by simp only [Stt]; rw [Stt_qs i fun j hj => h j (by omega), h i (by omega)]

/-- facts of the first i operations -/
def Upto (P : Program) (ops : List Oper) (os : Nat → Oper) (qs : Nat → Rec) (tr : List (List Nat × List Nat)) (ts : Env) (m : Mem) (n : Nat) : Prop :=
  ∀ i o, i < n → ops[i]? = some o → ∃ t, tr[i]? = some t ∧ YA P ops o (qs i) t.1 (Stt os qs (fun _ => true) ts m i).1 (Stt os qs (fun _ => true) ts m i).2 ∧ ∀ l, l ∈ (qs i).new.map (·.1) → l ∈ t.2

theorem sD_out {P : Program} {ops : List Oper} {os : Nat → Oper} (hos : ∀ i o, ops[i]? = some o → os i = o) {ts0 : Env} {m0 : Mem} {K : St} :
    ∀ (r : List Oper) (i : Nat) (qs : Nat → Rec) (tr : List (List Nat × List Nat)) (ts : Env) (m : Mem), ops.drop i = r → i ≤ ops.length → tr.length = i → Stt os qs (fun _ => true) ts0 m0 i = (ts, m) → Upto P ops os qs tr.reverse ts0 m0 i → sD P ops r ts m tr K →
      ∃ qs tr, Ran P ops os qs tr ts0 m0 ∧ drawB ops tr = true ∧ K (Stt os qs (fun _ => true) ts0 m0 ops.length).1 (Stt os qs (fun _ => true) ts0 m0 ops.length).2
  | [], i, qs, tr, ts, m, hl, hin, ht, hs, hu, hk => by
    have hn : ops.length ≤ i := by
      have := congrArg List.length hl; simp at this; omega
    have e : i = ops.length := by omega
    subst e
    exact ⟨qs, tr.reverse, ⟨hos, fun j o ho => hu j o (List.getElem?_eq_some_iff.1 ho).1 ho⟩, hk.1, by rw [hs]; exact hk.2⟩
  | o :: r, i, qs, tr, ts, m, hl, hin, ht, hs, hu, hk => by
    have hi : i < ops.length := by
      have := congrArg List.length hl; simp at this; omega
    have hoi : ops[i]? = some o := by
      have := congrArg (·[0]?) hl
      simpa using this
    have hr : ops.drop (i + 1) = r := by
      have := congrArg List.tail hl
      simpa using this
    have go : ∀ (q : Rec) (t : List Nat × List Nat), YA P ops o q t.1 ts m → (∀ l, l ∈ q.new.map (·.1) → l ∈ t.2) → sD P ops r (putE o.dst q.x ts) (q.new ++ m) (t :: tr) K →
        ∃ qs tr, Ran P ops os qs tr ts0 m0 ∧ drawB ops tr = true ∧ K (Stt os qs (fun _ => true) ts0 m0 ops.length).1 (Stt os qs (fun _ => true) ts0 m0 ops.length).2 := by
      intro q t hya hnew hk
      have hq : ∀ j, j < i → qs j = (fun k => if k = i then q else qs k) j := fun j hj => by simp; intro e; omega
      have hst : ∀ j, j ≤ i → Stt os (fun k => if k = i then q else qs k) (fun _ => true) ts0 m0 j = Stt os qs (fun _ => true) ts0 m0 j := fun j hj => (Stt_qs j fun k hk => hq k (by omega)).symm
      refine sD_out hos r (i + 1) (fun k => if k = i then q else qs k) (t :: tr) _ _ hr hi (by simp [ht]) ?_ ?_ hk
      · simp only [Stt, if_true, hst i (Nat.le_refl _), hs, hos i o hoi]
      · intro j oj hj hoj
        rw [hst j (by omega)]
        rw [List.reverse_cons]
        by_cases e : j = i
        · subst e
          rw [hoi] at hoj; injection hoj with hoj; subst hoj
          refine ⟨t, by rw [List.getElem?_append_right (by simp [ht])]; simp [ht], ?_, by simpa using hnew⟩
          rw [hs]
          simpa using hya
        · obtain ⟨t', h1, h2, h3⟩ := hu j oj (by omega) hoj
          refine ⟨t', by rw [List.getElem?_append_left (by simp [ht]; omega)]; exact h1, ?_, ?_⟩
          · simpa [e] using h2
          · simpa [e] using h3
    have run : want1 ops o ts = some true → sOpD P (o.dst.getD 0) o.op ts m (fun x m' => sD P ops r (putE o.dst x ts) m' ((rdL o.op ts, wrL m' m) :: tr) K) →
        ∃ qs tr, Ran P ops os qs tr ts0 m0 ∧ drawB ops tr = true ∧ K (Stt os qs (fun _ => true) ts0 m0 ops.length).1 (Stt os qs (fun _ => true) ts0 m0 ops.length).2 := by
      intro hw hk
      obtain ⟨x, new, h1, h2⟩ := sOpD_det P _ _ _ _ _ hk
      refine go ⟨x, new⟩ (rdL o.op ts, wrL (new ++ m) m) (.inl ⟨hw, fun _ h => h, fun m' hm hm' k' hk' => h2 m' (fun l hl => hm l ?_) (fun l hl => hm' l (mem_keys hl)) k' hk'⟩) (fun l hl => by rw [wrL_new]; exact hl) h1
      obtain ⟨y, hy, ver, hv⟩ := hl
      exact List.mem_flatMap.2 ⟨y, hy, List.mem_map.2 ⟨(l, ver), hv, rfl⟩⟩
    cases hg : o.guard with
    | none =>
      simp only [sD, hg] at hk
      exact run (by simp [want1, hg]) hk
    | some jw =>
      obtain ⟨j, want⟩ := jw
      simp only [sD, hg] at hk
      unfold sGuard at hk
      split at hk
      · rename_i c hy
        by_cases hc : c = want
        · subst hc
          exact run (by simp [want1, hg, hy]) (hk.1 rfl)
        · exact go ⟨.tup [], []⟩ ([], []) (.inr ⟨by simp [want1, hg, hy, hc], rfl, rfl⟩) (fun l hl => by simp at hl) (hk.2 hc)
      · rename_i hy
        exact go ⟨.tup [], []⟩ ([], []) (.inr ⟨by simp [want1, hg, hy], rfl, rfl⟩) (fun l hl => by simp at hl) hk
      · exact hk.elim

/-- A region that draws its order, by one run in the order of the text. -/
theorem Later.draw {P : Program} {N i : Nat} {ops : List Oper} {ts : Env} {m : Mem} {Q : Post} {q : Pack (Code.region i ⟨ops⟩ true, Q)} (hm : P.follows .mixedOrders = true) (hok : (opsOk N ops && guardsOk N ops) = true)
    (h : sD P ops ops ts m [] (Q .normal)) : Later P N (.region i ⟨ops⟩ true) ts m Q q := by
  refine ⟨fun B φ fp S a w hRS => ?_⟩
  simp only [Bool.and_eq_true] at hok
  obtain ⟨qs, tr, hR, hB, hK⟩ := sD_out (os := fun i => (ops[i]?).getD default) (ts0 := ts) (m0 := m) (fun i o ho => by simp [ho]) ops 0 (fun _ => ⟨.undef, []⟩) [] ts m rfl (Nat.zero_le _) rfl rfl (fun i o hi => absurd hi (Nat.not_lt_zero _)) h
  refine wp_region_any hm ?_
  refine any_sound (B := B) (N := N) hR hB hok.1 hok.2 hK (fun a w hd => hd) _ _ φ fp S a _ (by simp) ?_ ?_ ?_
  · intro j o _ hd
    have hd : (Array.replicate (List.toArray ops).size false).getD j false = true := hd
    rw [getD_replicate_false] at hd; cases hd
  · exact Nat.le_trans List.countP_le_length (by simp)
  · have e : (fun i => (Array.replicate (List.toArray ops).size false).getD i false) = fun _ => false := funext fun i => getD_replicate_false _ _
    have e2 := Stt_stop (os := fun i => (ops[i]?).getD default) (qs := qs) (D := fun _ => false) (ts := ts) (m := m) (j := 0) (fun _ _ => rfl) ops.length (Nat.zero_le _)
    show RS B N φ fp S (Stt _ qs (fun i => (Array.replicate (List.toArray ops).size false).getD i false) ts m ops.length).1 (Stt _ qs (fun i => (Array.replicate (List.toArray ops).size false).getD i false) ts m ops.length).2 a { w with drawn := w.drawn + 1 }
    rw [e, e2]
    exact hRS.sameHeap rfl ⟨rfl, rfl, rfl⟩

end Go.Vc
