/-
  A region that draws its order, whose last operations each wait for all before them: the first by the rule for drawn regions, the last in the order of the text.
-/
import Derived.Test.YtlelhmbhhnokoaaDoorVcDrawn
set_option linter.unusedVariables false
set_option linter.unusedSimpArgs false
set_option linter.unnecessarySimpa false
namespace Go.Vc

/-- From place n on each operation waits for all that stand before it. -/
def soloB (ops : List Oper) (n : Nat) : Bool := backB ops && (List.range ops.length).all fun j => decide (j < n) || (List.range j).all fun i => ((ancsGo ops []).getD j []).contains i

section
variable {P : Program} {B : Base} {N : Nat} {φ : Nat → LS} {fp : Nat → List Nat} {S : Nat → Prop} {ts : Env} {m : Mem} {a : Act} {w : World}
variable {os : Nat → Oper} {qs : Nat → Rec} {D D' : Nat → Bool} {ops : List Oper} {tr : List (List Nat × List Nat)}

theorem solo_out {n : Nat} (h : soloB ops n = true) (hD : Closed ops D) {j : Nat} (hj : j < ops.length) (hn : n ≤ j) (hd : D j = true) : ∀ i, i < j → D i = true := by
  intro i hi
  simp only [soloB, Bool.and_eq_true, List.all_eq_true, List.mem_range, Bool.or_eq_true, decide_eq_true_eq, List.contains_eq_mem] at h
  rcases h.2 j hj with h1 | h1
  · omega
  · exact ancsGo_closed hD ops [] rfl (fun j x hx => by simp at hx) j i (h1 i hi) hd

theorem back_of {n : Nat} (h : soloB ops n = true) : ∀ i o, ops[i]? = some o → ∀ p, p ∈ preds o → p < i := by
  intro i o ho p hp
  simp only [soloB, backB, Bool.and_eq_true, List.all_eq_true, List.mem_range] at h
  have := h.1 i (List.getElem?_eq_some_iff.1 ho).1
  rw [ho] at this
  simpa using List.all_eq_true.1 this p hp

/-- the operations below k have been listed, no others -/
def Upk (ops : List Oper) (k : Nat) (listed : Array Bool) : Prop := listed.size = ops.length ∧ ∀ i, i < ops.length → listed.getD i false = decide (i < k)

/-- The last operations, one after the other. -/
theorem tail_sound {n : Nat} (hs : soloB ops n = true) (hok : opsOk N ops = true) (hgs : guardsOk N ops = true) {Q : Exit → Act → World → Prop} {K : St} (hQ : ∀ a w, Done B N K a w → Q .normal a w) :
    ∀ (c k fuel : Nat) (listed : Array Bool) (φ : Nat → LS) (fp : Nat → List Nat) (S : Nat → Prop) (ts : Env) (m : Mem) (a : Act) (w : World), c = ops.length - k → n ≤ k → k ≤ ops.length → Upk ops k listed → ops.length - k ≤ fuel →
      RS B N φ fp S ts m a w → sL P ops (ops.drop k) ts m K → wpAny P .any ops.toArray Q fuel listed a w := by
  intro c
  induction c with
  | zero =>
    intro k fuel listed φ fp S ts m a w hc hnk hk hu hf h hsl
    have hkl : k = ops.length := by omega
    subst hkl
    rw [List.drop_length] at hsl
    have hfin : Q .normal a w := hQ a w ⟨φ, fp, S, ts, m, h, hsl⟩
    have hr : Region.ready .any ops.toArray listed = [] := by
      cases hr : Region.ready .any ops.toArray listed with
      | nil => rfl
      | cons j r =>
        have hj : j ∈ Region.ready .any ops.toArray listed := by rw [hr]; exact List.mem_cons_self ..
        obtain ⟨h0, o, ho, _⟩ := mem_ready.1 hj
        have hjn : j < ops.length := by simpa using (Array.getElem?_eq_some_iff.1 ho).1
        have := hu.2 j hjn
        rw [getD_both h0] at this
        simp at this; omega
    cases fuel with
    | zero => exact ⟨hr, hfin⟩
    | succ fuel => exact ⟨fun _ => hfin, fun i hi => by rw [hr] at hi; cases hi⟩
  | succ c ih =>
    intro k fuel listed φ fp S ts m a w hc hnk hk hu hf h hsl
    have hkl : k < ops.length := by omega
    have hok1 : ops[k]? = some ops[k] := List.getElem?_eq_getElem hkl
    rw [List.drop_eq_getElem_cons hkl] at hsl
    generalize ops[k] = o at hok1 hsl
    obtain ⟨fuel, rfl⟩ : ∃ f, fuel = f + 1 := ⟨fuel - 1, by omega⟩
    have hclosed : Closed ops (fun i => listed.getD i false) := by
      intro j oj hoj hdj i hi
      have hjn := (List.getElem?_eq_some_iff.1 hoj).1
      have h1 := hu.2 j hjn
      have h2 := back_of hs j oj hoj i hi
      have h3 := hu.2 i (by omega)
      simp only at hdj ⊢
      rw [h1] at hdj
      rw [h3]
      simp at hdj ⊢; omega
    have hready : k ∈ Region.ready .any ops.toArray listed := by
      refine mem_ready.2 ⟨?_, o, by simpa using hok1, fun e he hb => ?_⟩
      · have h5 : listed.getD k false = false := by rw [hu.2 k hkl]; exact decide_eq_false (Nat.lt_irrefl k)
        exact getD_in (by rw [hu.1]; exact hkl) h5
      · have hp : e.on ∈ preds o := List.mem_map.2 ⟨e, List.mem_filter.2 ⟨by simpa using he, hb⟩, rfl⟩
        have hlt := back_of hs k o hok1 _ hp
        rw [hu.2 e.on (by omega)]; simpa using hlt
    refine ⟨fun hr => (by rw [hr] at hready; exact absurd hready List.not_mem_nil), fun j hj => ?_⟩
    obtain ⟨h0, oj, hoj, hpre⟩ := mem_ready.1 hj
    have hdj : listed.getD j false = false := getD_both h0
    have hoj' : ops[j]? = some oj := by simpa using hoj
    have hjn : j < ops.length := (List.getElem?_eq_some_iff.1 hoj').1
    have hjk : k ≤ j := by
      have := hu.2 j hjn
      rw [hdj] at this; simp at this; omega
    have hp : ∀ i, i ∈ preds oj → listed.getD i false = true := by
      intro i hi
      obtain ⟨e, he, rfl⟩ := List.mem_map.1 hi
      obtain ⟨he1, he2⟩ := List.mem_filter.1 he
      exact hpre e (by simpa using he1) he2
    have e : j = k := by
      rcases Nat.lt_or_ge k j with hlt | hge
      · have hadd := hclosed.add hoj' hp
        have := solo_out hs hadd hjn (by omega) (by simp [addD]) k hlt
        simp only [addD, hu.2 k hkl, Bool.or_eq_true, beq_iff_eq] at this
        simp at this; omega
      · omega
    subst e
    rw [hok1] at hoj'
    injection hoj' with hoj'
    subst hoj'
    have hup : Upk ops (j + 1) (listed.setIfInBounds j true) := by
      refine ⟨by simp [hu.1], fun i hi => ?_⟩
      by_cases e : i = j
      · subst e; simp [hu.1, hi]
      · rw [getD_set_ne false (Ne.symm e), hu.2 i hi]
        simp; omega
    have hdo : ∀ d, o.dst = some d → d < N := by
      intro d hd
      have := List.all_eq_true.1 hok o (List.mem_of_getElem? hok1)
      rw [hd] at this; simpa using this
    have next : ∀ a' w', Done B N (fun ts m => sL P ops (ops.drop (j + 1)) ts m K) a' w' → wpAny P .any ops.toArray Q fuel (listed.setIfInBounds j true) a' w' := by
      rintro a' w' ⟨φ', fp', S', ts', m', h', hk'⟩
      exact ih (j + 1) fuel _ φ' fp' S' ts' m' a' w' (by omega) (by omega) (by omega) hup (by omega) h' hk'
    unfold wpOp
    have hoA : ops.toArray[j]? = some o := by simpa using hok1
    simp only [hoA]
    simp only [sL] at hsl
    cases hg : o.guard with
    | none =>
      rw [hg] at hsl
      rw [wanted_of h hgs hok1 (show want1 ops o ts = some true by simp [want1, hg])]
      simp only [if_true]
      exact .inl (op_sound h hsl fun v w' hgv => next _ _ (step_done hdo hgv fun x m' hx => hx))
    | some jw =>
      obtain ⟨g, want⟩ := jw
      rw [hg] at hsl
      simp only at hsl
      unfold sGuard at hsl
      split at hsl
      · rename_i c hy
        by_cases hcw : c = want
        · subst hcw
          rw [wanted_of h hgs hok1 (show want1 ops o ts = some true by simp [want1, hg, hy])]
          simp only [if_true]
          exact .inl (op_sound h (hsl.1 rfl) fun v w' hgv => next _ _ (step_done hdo hgv fun x m' hx => hx))
        · rw [wanted_of h hgs hok1 (show want1 ops o ts = some false by simp [want1, hg, hy, hcw])]
          simp only [Bool.false_eq_true, if_false]
          have hk2 := hsl.2 hcw
          refine next _ _ (step_done (k := fun x m' => x = .tup [] ∧ m' = m) hdo (h.gives (x := .tup []) (.rd _ _ (.tup [] #[] rfl fun i hi => absurd hi (Nat.not_lt_zero _))) (fun _ _ hl => by cases hl) ⟨rfl, rfl, rfl⟩) fun x m' ⟨h1, h2⟩ => ?_)
          rw [h1, h2]; exact hk2
      · rename_i hy
        rw [wanted_of h hgs hok1 (show want1 ops o ts = some false by simp [want1, hg, hy])]
        simp only [Bool.false_eq_true, if_false]
        refine next _ _ (step_done (k := fun x m' => x = .tup [] ∧ m' = m) hdo (h.gives (x := .tup []) (.rd _ _ (.tup [] #[] rfl fun i hi => absurd hi (Nat.not_lt_zero _))) (fun _ _ hl => by cases hl) ⟨rfl, rfl, rfl⟩) fun x m' ⟨h1, h2⟩ => ?_)
        rw [h1, h2]; exact hsl
      · exact hsl.elim

theorem count_ge {f : Nat → Bool} {n : Nat} : ∀ N, (∀ i, n ≤ i → i < N → f i = true) → N - n ≤ (List.range N).countP f
  | 0, _ => by omega
  | N + 1, h => by
    rw [List.range_succ, List.countP_append]
    have := count_ge (f := f) (n := n) N fun i h1 h2 => h i h1 (by omega)
    by_cases e : n ≤ N
    · have h1 := h N e (by omega)
      have h2 : List.countP f [N] = 1 := by simp [h1]
      omega
    · omega

theorem take_get {n i : Nat} (h : i < n) : (ops.take n)[i]? = ops[i]? := by rw [List.getElem?_take]; simp [h]
def gLow (n : Nat) (ops : List Oper) : Bool := (ops.take n).all fun o => match o.guard with | some (j, _) => decide (j < n) | none => true
theorem want1_take {n j : Nat} {o : Oper} (hg : gLow n ops = true) (ho : (ops.take n)[j]? = some o) (ts : Env) : want1 (ops.take n) o ts = want1 ops o ts := by
  have := List.all_eq_true.1 hg o (List.mem_of_getElem? ho)
  unfold want1
  cases hg : o.guard with
  | none => rfl
  | some iv =>
    obtain ⟨i, v⟩ := iv
    rw [hg] at this
    simp only [decide_eq_true_eq] at this
    simp only [dstOf]
    rw [take_get this]

theorem solo_sound {n : Nat} (hn : n ≤ ops.length) (hs : soloB ops n = true) (hgl : gLow n ops = true) {ts0 : Env} {m0 : Mem} (hR : Ran P (ops.take n) os qs tr ts0 m0) (hB : drawB (ops.take n) tr = true) (hok : opsOk N ops = true) (hgs : guardsOk N ops = true) {Q : Exit → Act → World → Prop} {K : St}
    (hK : sL P ops (ops.drop n) (Stt os qs (fun _ => true) ts0 m0 n).1 (Stt os qs (fun _ => true) ts0 m0 n).2 K) (hQ : ∀ a w, Done B N K a w → Q .normal a w) :
    ∀ (fuel : Nat) (listed : Array Bool) (φ : Nat → LS) (fp : Nat → List Nat) (S : Nat → Prop) (a : Act) (w : World), listed.size = ops.length → Closed ops (fun i => listed.getD i false) → (∀ i, n ≤ i → listed.getD i false = false) → unl ops.length listed ≤ fuel →
      RS B N φ fp S (Stt os qs (fun i => listed.getD i false) ts0 m0 n).1 (Stt os qs (fun i => listed.getD i false) ts0 m0 n).2 a w → wpAny P .any ops.toArray Q fuel listed a w := by
  have hlen : (ops.take n).length = n := by simp; omega
  have hback := back_of hs
  have full : ∀ (fuel : Nat) (listed : Array Bool) (φ : Nat → LS) (fp : Nat → List Nat) (S : Nat → Prop) (a : Act) (w : World), listed.size = ops.length → (∀ i, n ≤ i → listed.getD i false = false) → unl ops.length listed ≤ fuel →
      (∀ i, i < n → listed.getD i false = true) → RS B N φ fp S (Stt os qs (fun i => listed.getD i false) ts0 m0 n).1 (Stt os qs (fun i => listed.getD i false) ts0 m0 n).2 a w → wpAny P .any ops.toArray Q fuel listed a w := by
    intro fuel listed φ fp S a w hsz hlo hf hall h
    have e : Stt os qs (fun i => listed.getD i false) ts0 m0 n = Stt os qs (fun _ => true) ts0 m0 n := Stt_prefix n (Nat.le_refl _) fun q hq => hall q hq
    rw [e] at h
    refine tail_sound hs hok hgs hQ _ n fuel listed φ fp S _ _ a w rfl (Nat.le_refl _) hn ⟨hsz, fun i _ => ?_⟩ ?_ h hK
    · by_cases hi : i < n
      · rw [hall i hi]; simp [hi]
      · rw [hlo i (by omega)]; simp [hi]
    · refine Nat.le_trans (count_ge _ fun i h1 _ => ?_) hf
      rw [hlo i h1]; rfl
  intro fuel
  induction fuel with
  | zero =>
    intro listed φ fp S a w hsz hc hlo hf h
    refine full 0 listed φ fp S a w hsz hlo hf (fun i hi => ?_) h
    cases hl : listed.getD i false with
    | true => rfl
    | false =>
      have h0 : unl ops.length listed = 0 := Nat.le_zero.1 hf
      have := List.countP_eq_zero.1 h0 i (List.mem_range.2 (by omega))
      rw [hl] at this; exact absurd rfl this
  | succ fuel ih =>
    intro listed φ fp S a w hsz hc hlo hf h
    by_cases hall : ∀ i, i < n → listed.getD i false = true
    · exact full _ listed φ fp S a w hsz hlo hf hall h
    · obtain ⟨i0, hi0⟩ := Classical.not_forall.1 hall
      obtain ⟨hi0n, hi0⟩ := Classical.not_imp.1 hi0
      have hi0 : listed.getD i0 false = false := by simpa using hi0
      refine ⟨fun hr => ?_, fun j hj => ?_⟩
      · exfalso
        have : ∀ i, i < ops.length → listed.getD i false = true := by
          intro i
          induction i using Nat.strongRecOn with
          | ind i ih =>
            intro hi
            cases hl : listed.getD i false with
            | true => rfl
            | false =>
              have ho : ops[i]? = some ops[i] := List.getElem?_eq_getElem hi
              have : i ∈ Region.ready .any ops.toArray listed := mem_ready.2 ⟨getD_in (by omega) hl, ops[i], by simpa using ho, fun e he hb => by
                have hp : e.on ∈ preds ops[i] := List.mem_map.2 ⟨e, List.mem_filter.2 ⟨by simpa using he, hb⟩, rfl⟩
                have hlt := hback i _ ho _ hp
                exact ih e.on hlt (by omega)⟩
              rw [hr] at this; cases this
        rw [this i0 (by omega)] at hi0; cases hi0
      · obtain ⟨h0, o, ho, hpre⟩ := mem_ready.1 hj
        have hdj : listed.getD j false = false := getD_both h0
        have ho' : ops[j]? = some o := by simpa using ho
        have hjn : j < ops.length := (List.getElem?_eq_some_iff.1 ho').1
        have hp : ∀ i, i ∈ preds o → listed.getD i false = true := by
          intro i hi
          obtain ⟨e, he, rfl⟩ := List.mem_map.1 hi
          obtain ⟨he1, he2⟩ := List.mem_filter.1 he
          exact hpre e (by simpa using he1) he2
        have hjn' : j < n := by
          rcases Nat.lt_or_ge j n with hlt | hge
          · exact hlt
          · have := solo_out hs (hc.add ho' hp) hjn hge (by simp [addD]) i0 (by omega)
            simp only [addD, hi0, Bool.false_or, beq_iff_eq] at this
            omega
        have hot : (ops.take n)[j]? = some o := (take_get hjn').trans ho'
        have hct : Closed (ops.take n) (fun i => listed.getD i false) := fun k ok hk => by
          have hkn := (List.getElem?_eq_some_iff.1 hk).1
          rw [hlen] at hkn
          exact hc k ok ((take_get hkn).symm.trans hk)
        obtain ⟨⟨rd, hya⟩, hlk, hlb⟩ := hR.turn (D := fun i => listed.getD i false) hB hct (fun i hi => by
          rw [hlen]
          rcases Nat.lt_or_ge i n with h' | h'
          · exact h'
          · rw [hlo i h'] at hi; cases hi) hot hdj hp
        rw [hlen] at hya hlk hlb
        have hD' : (fun i => (listed.setIfInBounds j true).getD i false) = addD (fun i => listed.getD i false) j := by
          funext i
          by_cases e : i = j
          · subst e
            simp [addD, hsz, hjn]
          · have e2 : (i == j) = false := by simpa using e
            rw [getD_set_ne false (Ne.symm e)]
            simp [addD, e2]
        have hf' : unl ops.length (listed.setIfInBounds j true) ≤ fuel := by
          have : unl ops.length (listed.setIfInBounds j true) < unl ops.length listed := by
            refine countP_lt _ j (List.mem_range.2 hjn) (by simp only [hdj]; rfl) (by simp [hsz, hjn]) fun i hi => ?_
            by_cases e : i = j
            · subst e; rw [hdj]; rfl
            · rw [getD_set_ne false (Ne.symm e)] at hi; exact hi
          omega
        have next : ∀ a' w', Done B N (fun ts m => ts = putE o.dst (qs j).x (Stt os qs (fun i => listed.getD i false) ts0 m0 n).1 ∧ m = (qs j).new ++ (Stt os qs (fun i => listed.getD i false) ts0 m0 n).2) a' w' →
            wpAny P .any ops.toArray Q fuel (listed.setIfInBounds j true) a' w' := by
          rintro a' w' ⟨φ', fp', S', ts', m', h', rfl, rfl⟩
          refine ih _ φ' fp' S' a' w' (by simp [hsz]) (by rw [hD']; exact hc.add ho' hp) (fun i hi => ?_) hf' ?_
          · rw [getD_set_ne false (by omega)]; exact hlo i hi
          · rw [hD']
            exact h'.ext hlk hlb
        have hdo : ∀ d, o.dst = some d → d < N := by
          intro d hd
          have := List.all_eq_true.1 hok o (List.mem_of_getElem? ho')
          rw [hd] at this; simpa using this
        have hwt := want1_take hgl hot
        unfold wpOp
        simp only [ho]
        rcases hya with ⟨hw, _, hrun⟩ | ⟨hw, hx, hnew⟩
        · rw [hwt] at hw
          rw [wanted_of h hgs ho' hw]
          simp only [if_true]
          refine .inl (op_sound h (sOp_of_D (hrun _ (fun _ _ => rfl) (fun _ _ => rfl) (fun x m' => x = (qs j).x ∧ m' = (qs j).new ++ (Stt os qs (fun i => listed.getD i false) ts0 m0 n).2) ⟨rfl, rfl⟩)) fun v w' hg => ?_)
          exact next _ _ (step_done hdo hg fun x m' ⟨h1, h2⟩ => ⟨by rw [h1], h2⟩)
        · rw [hwt] at hw
          rw [wanted_of h hgs ho' hw]
          simp only [Bool.false_eq_true, if_false]
          refine next _ _ (step_done (k := fun x m' => x = .tup [] ∧ m' = (Stt os qs (fun i => listed.getD i false) ts0 m0 n).2) hdo (h.gives (x := .tup []) (.rd _ _ (.tup [] #[] rfl fun i hi => absurd hi (Nat.not_lt_zero _))) (fun _ _ hl => by cases hl) ⟨rfl, rfl, rfl⟩) fun x m' ⟨h1, h2⟩ => ⟨by rw [h1, hx], by rw [h2, hnew]; rfl⟩)
end

/-- A region that draws its order and whose operations from n on each wait for all before them. -/
theorem Later.solo (n : Nat) {P : Program} {N i : Nat} {ops : List Oper} {ts : Env} {m : Mem} {Q : Post} {q : Pack (Code.region i ⟨ops⟩ true, Q)} (hm : P.follows .mixedOrders = true) (hok : (opsOk N ops && guardsOk N ops && (gLow n ops && (soloB ops n && decide (n ≤ ops.length)))) = true)
    (h : sD P (ops.take n) (ops.take n) ts m [] fun ts' m' => sL P ops (ops.drop n) ts' m' (Q .normal)) : Later P N (.region i ⟨ops⟩ true) ts m Q q := by
  refine ⟨fun B φ fp S a w hRS => ?_⟩
  simp only [Bool.and_eq_true, decide_eq_true_eq] at hok
  have hlen : (ops.take n).length = n := by simp; omega
  obtain ⟨qs, tr, hR, hB, hK⟩ := sD_out (os := fun i => (ops[i]?).getD default) (ts0 := ts) (m0 := m) (fun i o ho => by
    have hi := (List.getElem?_eq_some_iff.1 ho).1
    rw [hlen] at hi
    rw [take_get hi] at ho
    simp [ho]) (ops.take n) 0 (fun _ => ⟨.undef, []⟩) [] ts m rfl (Nat.zero_le _) rfl rfl (fun i o hi => absurd hi (Nat.not_lt_zero _)) h
  rw [hlen] at hK
  refine wp_region_any hm ?_
  refine solo_sound (B := B) (N := N) hok.2.2.2 hok.2.2.1 hok.2.1 hR hB hok.1.1 hok.1.2 hK (fun a w hd => hd) _ _ φ fp S a _ (by simp) ?_ ?_ ?_ ?_
  · intro j o _ hd
    have hd : (Array.replicate (List.toArray ops).size false).getD j false = true := hd
    rw [getD_replicate_false] at hd; cases hd
  · exact fun i _ => getD_replicate_false _ _
  · exact Nat.le_trans List.countP_le_length (by simp)
  · have e : (fun i => (Array.replicate (List.toArray ops).size false).getD i false) = fun _ => false := funext fun i => getD_replicate_false _ _
    have e2 := Stt_stop (os := fun i => (ops[i]?).getD default) (qs := qs) (D := fun _ => false) (ts := ts) (m := m) (j := 0) (fun _ _ => rfl) n (Nat.zero_le _)
    show RS B N φ fp S (Stt _ qs (fun i => (Array.replicate (List.toArray ops).size false).getD i false) ts m n).1 (Stt _ qs (fun i => (Array.replicate (List.toArray ops).size false).getD i false) ts m n).2 a { w with drawn := w.drawn + 1 }
    rw [e, e2]
    exact hRS.sameHeap rfl ⟨rfl, rfl, rfl⟩
end Go.Vc
