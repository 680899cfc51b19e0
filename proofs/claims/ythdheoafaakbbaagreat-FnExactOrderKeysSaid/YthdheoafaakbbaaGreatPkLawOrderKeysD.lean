import Derived.Sort.Grow
import Derived.Shelf.SlGeneric
import Derived.Ground.SlgnProg
import Derived.Shelf.SortG.Plain
import Derived.Shelf.SlicesG.CompactI
import Derived.Shelf.SortG.SortNone
import Derived.Test.YthdheoafaakbbaaGreatProg
import Derived.Laws.IdiomCopy
import Derived.Deep.Draws
import Derived.Lib.SlicesCompact
import Derived.Test.YthdheoafaakbbaaGreatPkLawOrderKeysC
open Bool renaming false_eq_true → uq0, or_false → uq1
open List renaming cons_append → uq2, nil_append → uq3
set_option linter.unusedVariables false
set_option linter.unusedSimpArgs false
set_option linter.unnecessarySimpa false
namespace Go.Vc

def soloB (ops : List Oper) (n : Nat) : Bool := backB ops && (List.range ops.length).all fun j => decide (j < n) || (List.range j).all fun i => ((ancsGo ops []).getD j []).contains i

section
variable {P : Program} {B : Base} {N : Nat} {φ : Nat → LS} {fp : Nat → List Nat} {S : Nat → Prop} {ts : Env} {m : Mem} {a : Act} {w : World}
variable {os : Nat → Oper} {qs : Nat → Rec} {D D' : Nat → Bool} {ops : List Oper} {tr : List (List Nat × List Nat)}

theorem solo_out {n : Nat} (h : soloB ops n = true) (hD : Closed ops D) {j : Nat} (hj : j < ops.length) (hn : n ≤ j) (hd : D j = true) : ∀ i, i < j → D i = true := by
  intro i hi
  simp only [soloB, Bool.and_eq_true, List.all_eq_true, List.mem_range, Bool.or_eq_true, decide_eq_true_eq, List.contains_eq_mem] at h
  rcases h.2 j hj with h1 | h1
  · omega
  · exact ancsGo_closed hD ops [] rfl (fun j x hx => by simp at hx) j i (h1 i hi) hd

theorem back_of {n : Nat} (h : soloB ops n = true) : ∀ i o, ops[i]? = some o → ∀ p, p ∈ preds o → p < i := by
  intro i o ho p hp
  simp only [soloB, backB, Bool.and_eq_true, List.all_eq_true, List.mem_range] at h
  have := h.1 i (List.getElem?_eq_some_iff.1 ho).1
  rw [ho] at this
  simpa using List.all_eq_true.1 this p hp

def Upk (ops : List Oper) (k : Nat) (listed : Array Bool) : Prop := listed.size = ops.length ∧ ∀ i, i < ops.length → listed.getD i false = decide (i < k)

theorem tail_sound {n : Nat} (hs : soloB ops n = true) (hok : opsOk N ops = true) (hgs : guardsOk N ops = true) {Q : Exit → Act → World → Prop} {K : St} (hQ : ∀ a w, Done B N K a w → Q .normal a w) :
    ∀ (c k fuel : Nat) (listed : Array Bool) (φ : Nat → LS) (fp : Nat → List Nat) (S : Nat → Prop) (ts : Env) (m : Mem) (a : Act) (w : World), c = ops.length - k → n ≤ k → k ≤ ops.length → Upk ops k listed → ops.length - k ≤ fuel →
      RS B N φ fp S ts m a w → sL P ops (ops.drop k) ts m K → wpAny P .any ops.toArray Q fuel listed a w := by
  intro c
  induction c with
  | zero =>
    intro k fuel listed φ fp S ts m a w hc hnk hk hu hf h hsl
    have hkl : k = ops.length := by omega
    subst hkl
    rw [List.drop_length] at hsl
    have hfin : Q .normal a w := hQ a w ⟨φ, fp, S, ts, m, h, hsl⟩
    have hr : Region.ready .any ops.toArray listed = [] := by
      cases hr : Region.ready .any ops.toArray listed with
      | nil => rfl
      | cons j r =>
        have hj : j ∈ Region.ready .any ops.toArray listed := by rw [hr]; exact List.mem_cons_self ..
        obtain ⟨h0, o, ho, _⟩ := mem_ready.1 hj
        have hjn : j < ops.length := by simpa using (Array.getElem?_eq_some_iff.1 ho).1
        have := hu.2 j hjn
        rw [getD_both h0] at this
        simp at this; omega
    cases fuel with
    | zero => exact ⟨hr, hfin⟩
    | succ fuel => exact ⟨fun _ => hfin, fun i hi => by rw [hr] at hi; cases hi⟩
  | succ c ih =>
    intro k fuel listed φ fp S ts m a w hc hnk hk hu hf h hsl
    have hkl : k < ops.length := by omega
    have hok1 : ops[k]? = some ops[k] := List.getElem?_eq_getElem hkl
    rw [List.drop_eq_getElem_cons hkl] at hsl
    generalize ops[k] = o at hok1 hsl
    obtain ⟨fuel, rfl⟩ : ∃ f, fuel = f + 1 := ⟨fuel - 1, by omega⟩
    have hclosed : Closed ops (fun i => listed.getD i false) := by
      intro j oj hoj hdj i hi
      have hjn := (List.getElem?_eq_some_iff.1 hoj).1
      have h1 := hu.2 j hjn
      have h2 := back_of hs j oj hoj i hi
      have h3 := hu.2 i (by omega)
      simp only at hdj ⊢
      rw [h1] at hdj
      rw [h3]
      simp at hdj ⊢; omega
    have hready : k ∈ Region.ready .any ops.toArray listed := by
      refine mem_ready.2 ⟨?_, o, by simpa using hok1, fun e he hb => ?_⟩
      · have h5 : listed.getD k false = false := by rw [hu.2 k hkl]; exact decide_eq_false (Nat.lt_irrefl k)
        exact getD_in (by rw [hu.1]; exact hkl) h5
      · have hp : e.on ∈ preds o := List.mem_map.2 ⟨e, List.mem_filter.2 ⟨by simpa using he, hb⟩, rfl⟩
        have hlt := back_of hs k o hok1 _ hp
        rw [hu.2 e.on (by omega)]; simpa using hlt
    refine ⟨fun hr => (by rw [hr] at hready; exact absurd hready List.not_mem_nil), fun j hj => ?_⟩
    obtain ⟨h0, oj, hoj, hpre⟩ := mem_ready.1 hj
    have hdj : listed.getD j false = false := getD_both h0
    have hoj' : ops[j]? = some oj := by simpa using hoj
    have hjn : j < ops.length := (List.getElem?_eq_some_iff.1 hoj').1
    have hjk : k ≤ j := by
      have := hu.2 j hjn
      rw [hdj] at this; simp at this; omega
    have hp : ∀ i, i ∈ preds oj → listed.getD i false = true := by
      intro i hi
      obtain ⟨e, he, rfl⟩ := List.mem_map.1 hi
      obtain ⟨he1, he2⟩ := List.mem_filter.1 he
      exact hpre e (by simpa using he1) he2
    have e : j = k := by
      rcases Nat.lt_or_ge k j with hlt | hge
      · have hadd := hclosed.add hoj' hp
        have := solo_out hs hadd hjn (by omega) (by simp [addD]) k hlt
        simp only [addD, hu.2 k hkl, Bool.or_eq_true, beq_iff_eq] at this
        simp at this; omega
      · omega
    subst e
    rw [hok1] at hoj'
    injection hoj' with hoj'
    subst hoj'
    have hup : Upk ops (j + 1) (listed.setIfInBounds j true) := by
      refine ⟨by simp [hu.1], fun i hi => ?_⟩
      by_cases e : i = j
      · subst e; simp [hu.1, hi]
      · rw [getD_set_ne false (Ne.symm e), hu.2 i hi]
        simp; omega
    have hdo : ∀ d, o.dst = some d → d < N := by
      intro d hd
      have := List.all_eq_true.1 hok o (List.mem_of_getElem? hok1)
      rw [hd] at this; simpa using this
    have next : ∀ a' w', Done B N (fun ts m => sL P ops (ops.drop (j + 1)) ts m K) a' w' → wpAny P .any ops.toArray Q fuel (listed.setIfInBounds j true) a' w' := by
      rintro a' w' ⟨φ', fp', S', ts', m', h', hk'⟩
      exact ih (j + 1) fuel _ φ' fp' S' ts' m' a' w' (by omega) (by omega) (by omega) hup (by omega) h' hk'
    unfold wpOp
    have hoA : ops.toArray[j]? = some o := by simpa using hok1
    simp only [hoA]
    simp only [sL] at hsl
    cases hg : o.guard with
    | none =>
      rw [hg] at hsl
      rw [wanted_of h hgs hok1 (show want1 ops o ts = some true by simp [want1, hg])]
      simp only [if_true]
      exact .inl (op_sound h hsl fun v w' hgv => next _ _ (step_done hdo hgv fun x m' hx => hx))
    | some jw =>
      obtain ⟨g, want⟩ := jw
      rw [hg] at hsl
      simp only at hsl
      unfold sGuard at hsl
      split at hsl
      · rename_i c hy
        by_cases hcw : c = want
        · subst hcw
          rw [wanted_of h hgs hok1 (show want1 ops o ts = some true by simp [want1, hg, hy])]
          simp only [if_true]
          exact .inl (op_sound h (hsl.1 rfl) fun v w' hgv => next _ _ (step_done hdo hgv fun x m' hx => hx))
        · rw [wanted_of h hgs hok1 (show want1 ops o ts = some false by simp [want1, hg, hy, hcw])]
          simp only [uq0, if_false]
          have hk2 := hsl.2 hcw
          refine next _ _ (step_done (k := fun x m' => x = .tup [] ∧ m' = m) hdo (h.gives (x := .tup []) (.rd _ _ (.tup [] #[] rfl fun i hi => absurd hi (Nat.not_lt_zero _))) (fun _ _ hl => by cases hl) ⟨rfl, rfl, rfl⟩) fun x m' ⟨h1, h2⟩ => ?_)
          rw [h1, h2]; exact hk2
      · rename_i hy
        rw [wanted_of h hgs hok1 (show want1 ops o ts = some false by simp [want1, hg, hy])]
        simp only [uq0, if_false]
        refine next _ _ (step_done (k := fun x m' => x = .tup [] ∧ m' = m) hdo (h.gives (x := .tup []) (.rd _ _ (.tup [] #[] rfl fun i hi => absurd hi (Nat.not_lt_zero _))) (fun _ _ hl => by cases hl) ⟨rfl, rfl, rfl⟩) fun x m' ⟨h1, h2⟩ => ?_)
        rw [h1, h2]; exact hsl
      · exact hsl.elim

theorem count_ge {f : Nat → Bool} {n : Nat} : ∀ N, (∀ i, n ≤ i → i < N → f i = true) → N - n ≤ (List.range N).countP f
  | 0, _ => by omega
  | N + 1, h => by
    rw [List.range_succ, List.countP_append]
    have := count_ge (f := f) (n := n) N fun i h1 h2 => h i h1 (by omega)
    by_cases e : n ≤ N
    · have h1 := h N e (by omega)
      have h2 : List.countP f [N] = 1 := by simp [h1]
      omega
    · omega

theorem take_get {n i : Nat} (h : i < n) : (ops.take n)[i]? = ops[i]? := by rw [List.getElem?_take]; simp [h]
def gLow (n : Nat) (ops : List Oper) : Bool := (ops.take n).all fun o => match o.guard with | some (j, _) => decide (j < n) | none => true
theorem want1_take {n j : Nat} {o : Oper} (hg : gLow n ops = true) (ho : (ops.take n)[j]? = some o) (ts : Env) : want1 (ops.take n) o ts = want1 ops o ts := by
  have := List.all_eq_true.1 hg o (List.mem_of_getElem? ho)
  unfold want1
  cases hg : o.guard with
  | none => rfl
  | some iv =>
    obtain ⟨i, v⟩ := iv
    rw [hg] at this
    simp only [decide_eq_true_eq] at this
    simp only [dstOf]
    rw [take_get this]

theorem solo_sound {n : Nat} (hn : n ≤ ops.length) (hs : soloB ops n = true) (hgl : gLow n ops = true) {ts0 : Env} {m0 : Mem} (hR : Ran P 0 (ops.take n) os qs tr ts0 m0) (hB : drawB (ops.take n) tr = true) (hok : opsOk N ops = true) (hgs : guardsOk N ops = true) {Q : Exit → Act → World → Prop} {K : St}
    (hK : sL P ops (ops.drop n) (Stt os qs (fun _ => true) ts0 m0 n).1 (Stt os qs (fun _ => true) ts0 m0 n).2 K) (hQ : ∀ a w, Done B N K a w → Q .normal a w) :
    ∀ (fuel : Nat) (listed : Array Bool) (φ : Nat → LS) (fp : Nat → List Nat) (S : Nat → Prop) (a : Act) (w : World), listed.size = ops.length → Closed ops (fun i => listed.getD i false) → (∀ i, n ≤ i → listed.getD i false = false) → unl ops.length listed ≤ fuel →
      RS B N φ fp S (Stt os qs (fun i => listed.getD i false) ts0 m0 n).1 (Stt os qs (fun i => listed.getD i false) ts0 m0 n).2 a w → wpAny P .any ops.toArray Q fuel listed a w := by
  have hlen : (ops.take n).length = n := by simp; omega
  have hback := back_of hs
  have full : ∀ (fuel : Nat) (listed : Array Bool) (φ : Nat → LS) (fp : Nat → List Nat) (S : Nat → Prop) (a : Act) (w : World), listed.size = ops.length → (∀ i, n ≤ i → listed.getD i false = false) → unl ops.length listed ≤ fuel →
      (∀ i, i < n → listed.getD i false = true) → RS B N φ fp S (Stt os qs (fun i => listed.getD i false) ts0 m0 n).1 (Stt os qs (fun i => listed.getD i false) ts0 m0 n).2 a w → wpAny P .any ops.toArray Q fuel listed a w := by
    intro fuel listed φ fp S a w hsz hlo hf hall h
    have e : Stt os qs (fun i => listed.getD i false) ts0 m0 n = Stt os qs (fun _ => true) ts0 m0 n := Stt_prefix n (Nat.le_refl _) fun q hq => hall q hq
    rw [e] at h
    refine tail_sound hs hok hgs hQ _ n fuel listed φ fp S _ _ a w rfl (Nat.le_refl _) hn ⟨hsz, fun i _ => ?_⟩ ?_ h hK
    · by_cases hi : i < n
      · rw [hall i hi]; simp [hi]
      · rw [hlo i (by omega)]; simp [hi]
    · refine Nat.le_trans (count_ge _ fun i h1 _ => ?_) hf
      rw [hlo i h1]; rfl
  intro fuel
  induction fuel with
  | zero =>
    intro listed φ fp S a w hsz hc hlo hf h
    refine full 0 listed φ fp S a w hsz hlo hf (fun i hi => ?_) h
    cases hl : listed.getD i false with
    | true => rfl
    | false =>
      have h0 : unl ops.length listed = 0 := Nat.le_zero.1 hf
      have := List.countP_eq_zero.1 h0 i (List.mem_range.2 (by omega))
      rw [hl] at this; exact absurd rfl this
  | succ fuel ih =>
    intro listed φ fp S a w hsz hc hlo hf h
    by_cases hall : ∀ i, i < n → listed.getD i false = true
    · exact full _ listed φ fp S a w hsz hlo hf hall h
    · obtain ⟨i0, hi0⟩ := Classical.not_forall.1 hall
      obtain ⟨hi0n, hi0⟩ := Classical.not_imp.1 hi0
      have hi0 : listed.getD i0 false = false := by simpa using hi0
      refine ⟨fun hr => ?_, fun j hj => ?_⟩
      · exfalso
        have : ∀ i, i < ops.length → listed.getD i false = true := by
          intro i
          induction i using Nat.strongRecOn with
          | ind i ih =>
            intro hi
            cases hl : listed.getD i false with
            | true => rfl
            | false =>
              have ho : ops[i]? = some ops[i] := List.getElem?_eq_getElem hi
              have : i ∈ Region.ready .any ops.toArray listed := mem_ready.2 ⟨getD_in (by omega) hl, ops[i], by simpa using ho, fun e he hb => by
                have hp : e.on ∈ preds ops[i] := List.mem_map.2 ⟨e, List.mem_filter.2 ⟨by simpa using he, hb⟩, rfl⟩
                have hlt := hback i _ ho _ hp
                exact ih e.on hlt (by omega)⟩
              rw [hr] at this; cases this
        rw [this i0 (by omega)] at hi0; cases hi0
      · obtain ⟨h0, o, ho, hpre⟩ := mem_ready.1 hj
        have hdj : listed.getD j false = false := getD_both h0
        have ho' : ops[j]? = some o := by simpa using ho
        have hjn : j < ops.length := (List.getElem?_eq_some_iff.1 ho').1
        have hp : ∀ i, i ∈ preds o → listed.getD i false = true := by
          intro i hi
          obtain ⟨e, he, rfl⟩ := List.mem_map.1 hi
          obtain ⟨he1, he2⟩ := List.mem_filter.1 he
          exact hpre e (by simpa using he1) he2
        have hjn' : j < n := by
          rcases Nat.lt_or_ge j n with hlt | hge
          · exact hlt
          · have := solo_out hs (hc.add ho' hp) hjn hge (by simp [addD]) i0 (by omega)
            simp only [addD, hi0, Bool.false_or, beq_iff_eq] at this
            omega
        have hot : (ops.take n)[j]? = some o := (take_get hjn').trans ho'
        have hct : Closed (ops.take n) (fun i => listed.getD i false) := fun k ok hk => by
          have hkn := (List.getElem?_eq_some_iff.1 hk).1
          rw [hlen] at hkn
          exact hc k ok ((take_get hkn).symm.trans hk)
        obtain ⟨⟨rd, hya⟩, hlk, hlb⟩ := hR.turn (D := fun i => listed.getD i false) hB hct (fun i hi => by
          rw [hlen]
          rcases Nat.lt_or_ge i n with h' | h'
          · exact h'
          · rw [hlo i h'] at hi; cases hi) (fun i hi => absurd hi (Nat.not_lt_zero _)) hot hdj hp
        rw [hlen] at hya hlk hlb
        have hD' : (fun i => (listed.setIfInBounds j true).getD i false) = addD (fun i => listed.getD i false) j := by
          funext i
          by_cases e : i = j
          · subst e
            simp [addD, hsz, hjn]
          · have e2 : (i == j) = false := by simpa using e
            rw [getD_set_ne false (Ne.symm e)]
            simp [addD, e2]
        have hf' : unl ops.length (listed.setIfInBounds j true) ≤ fuel := by
          have : unl ops.length (listed.setIfInBounds j true) < unl ops.length listed := by
            refine countP_lt _ j (List.mem_range.2 hjn) (by simp only [hdj]; rfl) (by simp [hsz, hjn]) fun i hi => ?_
            by_cases e : i = j
            · subst e; rw [hdj]; rfl
            · rw [getD_set_ne false (Ne.symm e)] at hi; exact hi
          omega
        have next : ∀ a' w', Done B N (fun ts m => ts = putE o.dst (qs j).x (Stt os qs (fun i => listed.getD i false) ts0 m0 n).1 ∧ m = (qs j).new ++ (Stt os qs (fun i => listed.getD i false) ts0 m0 n).2) a' w' →
            wpAny P .any ops.toArray Q fuel (listed.setIfInBounds j true) a' w' := by
          rintro a' w' ⟨φ', fp', S', ts', m', h', rfl, rfl⟩
          refine ih _ φ' fp' S' a' w' (by simp [hsz]) (by rw [hD']; exact hc.add ho' hp) (fun i hi => ?_) hf' ?_
          · rw [getD_set_ne false (by omega)]; exact hlo i hi
          · rw [hD']
            exact h'.ext hlk hlb
        have hdo : ∀ d, o.dst = some d → d < N := by
          intro d hd
          have := List.all_eq_true.1 hok o (List.mem_of_getElem? ho')
          rw [hd] at this; simpa using this
        have hwt := want1_take hgl hot
        unfold wpOp
        simp only [ho]
        rcases hya with ⟨hw, _, hrun⟩ | ⟨hw, hx, hnew⟩
        · rw [hwt] at hw
          rw [wanted_of h hgs ho' hw]
          simp only [if_true]
          refine .inl (op_sound h (sOp_of_D (hrun _ (fun _ _ => rfl) (fun _ _ => rfl) (fun x m' => x = (qs j).x ∧ m' = (qs j).new ++ (Stt os qs (fun i => listed.getD i false) ts0 m0 n).2) ⟨rfl, rfl⟩)) fun v w' hg => ?_)
          exact next _ _ (step_done hdo hg fun x m' ⟨h1, h2⟩ => ⟨by rw [h1], h2⟩)
        · rw [hwt] at hw
          rw [wanted_of h hgs ho' hw]
          simp only [uq0, if_false]
          refine next _ _ (step_done (k := fun x m' => x = .tup [] ∧ m' = (Stt os qs (fun i => listed.getD i false) ts0 m0 n).2) hdo (h.gives (x := .tup []) (.rd _ _ (.tup [] #[] rfl fun i hi => absurd hi (Nat.not_lt_zero _))) (fun _ _ hl => by cases hl) ⟨rfl, rfl, rfl⟩) fun x m' ⟨h1, h2⟩ => ⟨by rw [h1, hx], by rw [h2, hnew]; rfl⟩)
end

theorem Later.solo (n : Nat) {P : Program} {N i : Nat} {ops : List Oper} {ts : Env} {m : Mem} {Q : Post} {q : Pack (Code.region i ⟨ops⟩ true, Q)} (hm : P.follows .mixedOrders = true) (hok : (opsOk N ops && guardsOk N ops && (gLow n ops && (soloB ops n && decide (n ≤ ops.length)))) = true)
    (h : sD P (ops.take n) (ops.take n) ts m [] fun ts' m' => sL P ops (ops.drop n) ts' m' (Q .normal)) : Later P N (.region i ⟨ops⟩ true) ts m Q q := by
  refine ⟨fun B φ fp S a w hRS => ?_⟩
  simp only [Bool.and_eq_true, decide_eq_true_eq] at hok
  have hlen : (ops.take n).length = n := by simp; omega
  obtain ⟨qs, tr, hR, hB, hK, _⟩ := sD_out (os := fun i => (ops[i]?).getD default) (ts0 := ts) (m0 := m) (sk := 0) (fun i o _ ho => by
    have hi := (List.getElem?_eq_some_iff.1 ho).1
    rw [hlen] at hi
    rw [take_get hi] at ho
    simp [ho]) (ops.take n) 0 (fun _ => ⟨.undef, []⟩) [] ts m rfl (Nat.le_refl _) (Nat.zero_le _) rfl rfl (fun i o _ hi => absurd hi (Nat.not_lt_zero _)) h
  rw [hlen] at hK
  refine wp_region_any hm ?_
  refine solo_sound (B := B) (N := N) hok.2.2.2 hok.2.2.1 hok.2.1 hR hB hok.1.1 hok.1.2 hK (fun a w hd => hd) _ _ φ fp S a _ (by simp) ?_ ?_ ?_ ?_
  · intro j o _ hd
    have hd : (Array.replicate (List.toArray ops).size false).getD j false = true := hd
    rw [getD_replicate_false] at hd; cases hd
  · exact fun i _ => getD_replicate_false _ _
  · exact Nat.le_trans List.countP_le_length (by simp)
  · have e : (fun i => (Array.replicate (List.toArray ops).size false).getD i false) = fun _ => false := funext fun i => getD_replicate_false _ _
    have e2 := Stt_stop (os := fun i => (ops[i]?).getD default) (qs := qs) (D := fun _ => false) (ts := ts) (m := m) (j := 0) (fun _ _ => rfl) n (Nat.zero_le _)
    show RS B N φ fp S (Stt _ qs (fun i => (Array.replicate (List.toArray ops).size false).getD i false) ts m n).1 (Stt _ qs (fun i => (Array.replicate (List.toArray ops).size false).getD i false) ts m n).2 a { w with drawn := w.drawn + 1 }
    rw [e, e2]
    exact hRS.sameHeap rfl ⟨rfl, rfl, rfl⟩
end Go.Vc


set_option linter.unusedVariables false
set_option linter.unusedSimpArgs false
set_option linter.unnecessarySimpa false
namespace Go.Vc

def waitB (ops : List Oper) (n : Nat) : Bool := backB ops && (List.range ops.length).all fun j => decide (j < n) || (List.range n).all fun i => ((ancsGo ops []).getD j []).contains i

section
variable {P : Program} {B : Base} {N : Nat} {φ : Nat → LS} {fp : Nat → List Nat} {S : Nat → Prop} {ts : Env} {m : Mem} {a : Act} {w : World}
variable {os : Nat → Oper} {qs : Nat → Rec} {D D' : Nat → Bool} {ops : List Oper} {tr : List (List Nat × List Nat)}

theorem wait_out {n : Nat} (h : waitB ops n = true) (hD : Closed ops D) {j : Nat} (hj : j < ops.length) (hn : n ≤ j) (hd : D j = true) : ∀ i, i < n → D i = true := by
  intro i hi
  simp only [waitB, Bool.and_eq_true, List.all_eq_true, List.mem_range, Bool.or_eq_true, decide_eq_true_eq, List.contains_eq_mem] at h
  rcases h.2 j hj with h1 | h1
  · omega
  · exact ancsGo_closed hD ops [] rfl (fun j x hx => by simp at hx) j i (h1 i hi) hd
theorem wait_back {n : Nat} (h : waitB ops n = true) : ∀ i o, ops[i]? = some o → ∀ p, p ∈ preds o → p < i := by
  intro i o ho p hp
  simp only [waitB, backB, Bool.and_eq_true, List.all_eq_true, List.mem_range] at h
  have := h.1 i (List.getElem?_eq_some_iff.1 ho).1
  rw [ho] at this
  simpa using List.all_eq_true.1 this p hp

theorem pre_sound {n : Nat} (hn : n ≤ ops.length) (hs : waitB ops n = true) (hgl : gLow n ops = true) {ts0 : Env} {m0 : Mem} (hR : Ran P 0 (ops.take n) os qs tr ts0 m0) (hB : drawB (ops.take n) tr = true) (hok : opsOk N ops = true) (hgs : guardsOk N ops = true)
    {Q : Exit → Act → World → Prop} {KN : St} (hK : KN (Stt os qs (fun _ => true) ts0 m0 n).1 (Stt os qs (fun _ => true) ts0 m0 n).2)
    (hfull : ∀ (fuel : Nat) (listed : Array Bool) (φ : Nat → LS) (fp : Nat → List Nat) (S : Nat → Prop) (ts : Env) (m : Mem) (a : Act) (w : World), Upk ops n listed → ops.length - n ≤ fuel → RS B N φ fp S ts m a w → KN ts m → wpAny P .any ops.toArray Q fuel listed a w) :
    ∀ (fuel : Nat) (listed : Array Bool) (φ : Nat → LS) (fp : Nat → List Nat) (S : Nat → Prop) (a : Act) (w : World), listed.size = ops.length → Closed ops (fun i => listed.getD i false) → (∀ i, n ≤ i → listed.getD i false = false) → unl ops.length listed ≤ fuel →
      RS B N φ fp S (Stt os qs (fun i => listed.getD i false) ts0 m0 n).1 (Stt os qs (fun i => listed.getD i false) ts0 m0 n).2 a w → wpAny P .any ops.toArray Q fuel listed a w := by
  have hlen : (ops.take n).length = n := by simp; omega
  have hback := wait_back hs
  have full : ∀ (fuel : Nat) (listed : Array Bool) (φ : Nat → LS) (fp : Nat → List Nat) (S : Nat → Prop) (a : Act) (w : World), listed.size = ops.length → (∀ i, n ≤ i → listed.getD i false = false) → unl ops.length listed ≤ fuel →
      (∀ i, i < n → listed.getD i false = true) → RS B N φ fp S (Stt os qs (fun i => listed.getD i false) ts0 m0 n).1 (Stt os qs (fun i => listed.getD i false) ts0 m0 n).2 a w → wpAny P .any ops.toArray Q fuel listed a w := by
    intro fuel listed φ fp S a w hsz hlo hf hall h
    have e : Stt os qs (fun i => listed.getD i false) ts0 m0 n = Stt os qs (fun _ => true) ts0 m0 n := Stt_prefix n (Nat.le_refl _) fun q hq => hall q hq
    rw [e] at h
    refine hfull fuel listed φ fp S _ _ a w ⟨hsz, fun i _ => ?_⟩ ?_ h hK
    · by_cases hi : i < n
      · rw [hall i hi]; simp [hi]
      · rw [hlo i (by omega)]; simp [hi]
    · refine Nat.le_trans (count_ge _ fun i h1 _ => ?_) hf
      rw [hlo i h1]; rfl
  intro fuel
  induction fuel with
  | zero =>
    intro listed φ fp S a w hsz hc hlo hf h
    refine full 0 listed φ fp S a w hsz hlo hf (fun i hi => ?_) h
    cases hl : listed.getD i false with
    | true => rfl
    | false =>
      have h0 : unl ops.length listed = 0 := Nat.le_zero.1 hf
      have := List.countP_eq_zero.1 h0 i (List.mem_range.2 (by omega))
      rw [hl] at this; exact absurd rfl this
  | succ fuel ih =>
    intro listed φ fp S a w hsz hc hlo hf h
    by_cases hall : ∀ i, i < n → listed.getD i false = true
    · exact full _ listed φ fp S a w hsz hlo hf hall h
    · obtain ⟨i0, hi0⟩ := Classical.not_forall.1 hall
      obtain ⟨hi0n, hi0⟩ := Classical.not_imp.1 hi0
      have hi0 : listed.getD i0 false = false := by simpa using hi0
      refine ⟨fun hr => ?_, fun j hj => ?_⟩
      · exfalso
        have : ∀ i, i < ops.length → listed.getD i false = true := by
          intro i
          induction i using Nat.strongRecOn with
          | ind i ih =>
            intro hi
            cases hl : listed.getD i false with
            | true => rfl
            | false =>
              have ho : ops[i]? = some ops[i] := List.getElem?_eq_getElem hi
              have : i ∈ Region.ready .any ops.toArray listed := mem_ready.2 ⟨getD_in (by omega) hl, ops[i], by simpa using ho, fun e he hb => by
                have hp : e.on ∈ preds ops[i] := List.mem_map.2 ⟨e, List.mem_filter.2 ⟨by simpa using he, hb⟩, rfl⟩
                have hlt := hback i _ ho _ hp
                exact ih e.on hlt (by omega)⟩
              rw [hr] at this; cases this
        rw [this i0 (by omega)] at hi0; cases hi0
      · obtain ⟨h0, o, ho, hpre⟩ := mem_ready.1 hj
        have hdj : listed.getD j false = false := getD_both h0
        have ho' : ops[j]? = some o := by simpa using ho
        have hjn : j < ops.length := (List.getElem?_eq_some_iff.1 ho').1
        have hp : ∀ i, i ∈ preds o → listed.getD i false = true := by
          intro i hi
          obtain ⟨e, he, rfl⟩ := List.mem_map.1 hi
          obtain ⟨he1, he2⟩ := List.mem_filter.1 he
          exact hpre e (by simpa using he1) he2
        have hjn' : j < n := by
          rcases Nat.lt_or_ge j n with hlt | hge
          · exact hlt
          · have := wait_out hs (hc.add ho' hp) hjn hge (by simp [addD]) i0 hi0n
            simp only [addD, hi0, Bool.false_or, beq_iff_eq] at this
            omega
        have hot : (ops.take n)[j]? = some o := (take_get hjn').trans ho'
        have hct : Closed (ops.take n) (fun i => listed.getD i false) := fun k ok hk => by
          have hkn := (List.getElem?_eq_some_iff.1 hk).1
          rw [hlen] at hkn
          exact hc k ok ((take_get hkn).symm.trans hk)
        obtain ⟨⟨rd, hya⟩, hlk, hlb⟩ := hR.turn (D := fun i => listed.getD i false) hB hct (fun i hi => by
          rw [hlen]
          rcases Nat.lt_or_ge i n with h' | h'
          · exact h'
          · rw [hlo i h'] at hi; cases hi) (fun i hi => absurd hi (Nat.not_lt_zero _)) hot hdj hp
        rw [hlen] at hya hlk hlb
        have hD' : (fun i => (listed.setIfInBounds j true).getD i false) = addD (fun i => listed.getD i false) j := by
          funext i
          by_cases e : i = j
          · subst e
            simp [addD, hsz, hjn]
          · have e2 : (i == j) = false := by simpa using e
            rw [getD_set_ne false (Ne.symm e)]
            simp [addD, e2]
        have hf' : unl ops.length (listed.setIfInBounds j true) ≤ fuel := by
          have : unl ops.length (listed.setIfInBounds j true) < unl ops.length listed := by
            refine countP_lt _ j (List.mem_range.2 hjn) (by simp only [hdj]; rfl) (by simp [hsz, hjn]) fun i hi => ?_
            by_cases e : i = j
            · subst e; rw [hdj]; rfl
            · rw [getD_set_ne false (Ne.symm e)] at hi; exact hi
          omega
        have next : ∀ a' w', Done B N (fun ts m => ts = putE o.dst (qs j).x (Stt os qs (fun i => listed.getD i false) ts0 m0 n).1 ∧ m = (qs j).new ++ (Stt os qs (fun i => listed.getD i false) ts0 m0 n).2) a' w' →
            wpAny P .any ops.toArray Q fuel (listed.setIfInBounds j true) a' w' := by
          rintro a' w' ⟨φ', fp', S', ts', m', h', rfl, rfl⟩
          refine ih _ φ' fp' S' a' w' (by simp [hsz]) (by rw [hD']; exact hc.add ho' hp) (fun i hi => ?_) hf' ?_
          · rw [getD_set_ne false (by omega)]; exact hlo i hi
          · rw [hD']
            exact h'.ext hlk hlb
        have hdo : ∀ d, o.dst = some d → d < N := by
          intro d hd
          have := List.all_eq_true.1 hok o (List.mem_of_getElem? ho')
          rw [hd] at this; simpa using this
        have hwt := want1_take hgl hot
        unfold wpOp
        simp only [ho]
        rcases hya with ⟨hw, _, hrun⟩ | ⟨hw, hx, hnew⟩
        · rw [hwt] at hw
          rw [wanted_of h hgs ho' hw]
          simp only [if_true]
          refine .inl (op_sound h (sOp_of_D (hrun _ (fun _ _ => rfl) (fun _ _ => rfl) (fun x m' => x = (qs j).x ∧ m' = (qs j).new ++ (Stt os qs (fun i => listed.getD i false) ts0 m0 n).2) ⟨rfl, rfl⟩)) fun v w' hg => ?_)
          exact next _ _ (step_done hdo hg fun x m' ⟨h1, h2⟩ => ⟨by rw [h1], h2⟩)
        · rw [hwt] at hw
          rw [wanted_of h hgs ho' hw]
          simp only [uq0, if_false]
          refine next _ _ (step_done (k := fun x m' => x = .tup [] ∧ m' = (Stt os qs (fun i => listed.getD i false) ts0 m0 n).2) hdo (h.gives (x := .tup []) (.rd _ _ (.tup [] #[] rfl fun i hi => absurd hi (Nat.not_lt_zero _))) (fun _ _ hl => by cases hl) ⟨rfl, rfl, rfl⟩) fun x m' ⟨h1, h2⟩ => ⟨by rw [h1, hx], by rw [h2, hnew]; rfl⟩)

theorem one_sound {n : Nat} (hw : waitB ops (n + 1) = true) (hok : opsOk N ops = true) (hgs : guardsOk N ops = true) {o : Oper} (hon : ops[n]? = some o) {KC : St} {Q : Exit → Act → World → Prop} {fuel : Nat} {listed : Array Bool}
    (hu : Upk ops n listed) (h : RS B N φ fp S ts m a w) (hsl : sL P ops [o] ts m KC)
    (hcont : ∀ (φ : Nat → LS) (fp : Nat → List Nat) (S : Nat → Prop) (ts : Env) (m : Mem) (a : Act) (w : World), RS B N φ fp S ts m a w → KC ts m → wpAny P .any ops.toArray Q fuel (listed.setIfInBounds n true) a w) :
    wpAny P .any ops.toArray Q (fuel + 1) listed a w := by
  have hnl : n < ops.length := (List.getElem?_eq_some_iff.1 hon).1
  have hback := wait_back hw
  have hclosed : Closed ops (fun i => listed.getD i false) := by
    intro j oj hoj hdj i hi
    have hjn := (List.getElem?_eq_some_iff.1 hoj).1
    have h1 := hu.2 j hjn
    have h2 := hback j oj hoj i hi
    have h3 := hu.2 i (by omega)
    simp only at hdj ⊢
    rw [h1] at hdj
    rw [h3]
    simp at hdj ⊢; omega
  have hready : n ∈ Region.ready .any ops.toArray listed := by
    refine mem_ready.2 ⟨?_, o, by simpa using hon, fun e he hb => ?_⟩
    · have h5 : listed.getD n false = false := by rw [hu.2 n hnl]; exact decide_eq_false (Nat.lt_irrefl n)
      exact getD_in (by rw [hu.1]; exact hnl) h5
    · have hp : e.on ∈ preds o := List.mem_map.2 ⟨e, List.mem_filter.2 ⟨by simpa using he, hb⟩, rfl⟩
      have hlt := hback n o hon _ hp
      rw [hu.2 e.on (by omega)]; simpa using hlt
  refine ⟨fun hr => (by rw [hr] at hready; exact absurd hready List.not_mem_nil), fun j hj => ?_⟩
  obtain ⟨h0, oj, hoj, hpre⟩ := mem_ready.1 hj
  have hdj : listed.getD j false = false := getD_both h0
  have hoj' : ops[j]? = some oj := by simpa using hoj
  have hjn : j < ops.length := (List.getElem?_eq_some_iff.1 hoj').1
  have hjk : n ≤ j := by
    have := hu.2 j hjn
    rw [hdj] at this; simp at this; omega
  have hp : ∀ i, i ∈ preds oj → listed.getD i false = true := by
    intro i hi
    obtain ⟨e, he, rfl⟩ := List.mem_map.1 hi
    obtain ⟨he1, he2⟩ := List.mem_filter.1 he
    exact hpre e (by simpa using he1) he2
  have e : j = n := by
    rcases Nat.lt_or_ge n j with hlt | hge
    · have hadd := hclosed.add hoj' hp
      have := wait_out hw hadd hjn (by omega) (by simp [addD]) n (by omega)
      simp only [addD, hu.2 n hnl, Bool.or_eq_true, beq_iff_eq] at this
      simp at this; omega
    · omega
  subst e
  rw [hon] at hoj'
  injection hoj' with hoj'
  subst hoj'
  have hdo : ∀ d, o.dst = some d → d < N := by
    intro d hd
    have := List.all_eq_true.1 hok o (List.mem_of_getElem? hon)
    rw [hd] at this; simpa using this
  have next : ∀ a' w', Done B N KC a' w' → wpAny P .any ops.toArray Q fuel (listed.setIfInBounds j true) a' w' := by
    rintro a' w' ⟨φ', fp', S', ts', m', h', hk'⟩
    exact hcont φ' fp' S' ts' m' a' w' h' hk'
  unfold wpOp
  have hoA : ops.toArray[j]? = some o := by simpa using hon
  simp only [hoA]
  simp only [sL] at hsl
  cases hg : o.guard with
  | none =>
    rw [hg] at hsl
    rw [wanted_of h hgs hon (show want1 ops o ts = some true by simp [want1, hg])]
    simp only [if_true]
    exact .inl (op_sound h hsl fun v w' hgv => next _ _ (step_done hdo hgv fun x m' hx => hx))
  | some jw =>
    obtain ⟨g, want⟩ := jw
    rw [hg] at hsl
    simp only at hsl
    unfold sGuard at hsl
    split at hsl
    · rename_i c hy
      by_cases hcw : c = want
      · subst hcw
        rw [wanted_of h hgs hon (show want1 ops o ts = some true by simp [want1, hg, hy])]
        simp only [if_true]
        exact .inl (op_sound h (hsl.1 rfl) fun v w' hgv => next _ _ (step_done hdo hgv fun x m' hx => hx))
      · rw [wanted_of h hgs hon (show want1 ops o ts = some false by simp [want1, hg, hy, hcw])]
        simp only [uq0, if_false]
        have hk2 := hsl.2 hcw
        refine next _ _ (step_done (k := fun x m' => x = .tup [] ∧ m' = m) hdo (h.gives (x := .tup []) (.rd _ _ (.tup [] #[] rfl fun i hi => absurd hi (Nat.not_lt_zero _))) (fun _ _ hl => by cases hl) ⟨rfl, rfl, rfl⟩) fun x m' ⟨h1, h2⟩ => ?_)
        rw [h1, h2]; exact hk2
    · rename_i hy
      rw [wanted_of h hgs hon (show want1 ops o ts = some false by simp [want1, hg, hy])]
      simp only [uq0, if_false]
      refine next _ _ (step_done (k := fun x m' => x = .tup [] ∧ m' = m) hdo (h.gives (x := .tup []) (.rd _ _ (.tup [] #[] rfl fun i hi => absurd hi (Nat.not_lt_zero _))) (fun _ _ hl => by cases hl) ⟨rfl, rfl, rfl⟩) fun x m' ⟨h1, h2⟩ => ?_)
      rw [h1, h2]; exact hsl
    · exact hsl.elim
theorem Stt_idle {n : Nat} {x : AV} {ts : Env} {m : Mem} (f : Nat → Oper) (hd : ∀ i, i < n → (f i).dst = none) : ∀ i, i ≤ n → Stt f (fun _ => ⟨x, []⟩) (fun _ => true) ts m i = (ts, m)
  | 0, _ => rfl
  | i + 1, hi => by
    simp only [Stt, if_true]
    rw [Stt_idle f hd i (by omega), hd i (by omega)]
    rfl
end

def idleOp : Oper := { (default : Oper) with dst := none }

theorem Later.duo (n : Nat) {P : Program} {N i : Nat} {ops : List Oper} {ts : Env} {m : Mem} {Q : Post} {q : Pack (Code.region i ⟨ops⟩ true, Q)} (hm : P.follows .mixedOrders = true)
    (hok : (opsOk N ops && guardsOk N ops && (gLow n ops && (waitB ops n && (waitB ops (n + 1) && decide (n < ops.length))))) = true)
    (h : sD P (ops.take n) (ops.take n) ts m [] fun ts' m' => sL P ops ((ops.drop n).take 1) ts' m' fun ts'' m'' => sD P ops (ops.drop (n + 1)) ts'' m'' (List.replicate (n + 1) ([], [])) (Q .normal)) : Later P N (.region i ⟨ops⟩ true) ts m Q q := by
  refine ⟨fun B φ fp S a w hRS => ?_⟩
  simp only [Bool.and_eq_true, decide_eq_true_eq] at hok
  obtain ⟨⟨hok1, hok2⟩, hgl, hw, hw1, hn⟩ := hok
  have hlen : (ops.take n).length = n := by simp; omega
  obtain ⟨qs, tr, hR, hB, hK, _⟩ := sD_out (os := fun i => (ops[i]?).getD default) (ts0 := ts) (m0 := m) (sk := 0) (fun i o _ ho => by
    have hi := (List.getElem?_eq_some_iff.1 ho).1
    rw [hlen] at hi
    rw [take_get hi] at ho
    simp [ho]) (ops.take n) 0 (fun _ => ⟨.undef, []⟩) [] ts m rfl (Nat.le_refl _) (Nat.zero_le _) rfl rfl (fun i o _ hi => absurd hi (Nat.not_lt_zero _)) h
  rw [hlen] at hK
  have hon : ops[n]? = some ops[n] := List.getElem?_eq_getElem hn
  have hdt : (ops.drop n).take 1 = [ops[n]] := by rw [List.drop_eq_getElem_cons hn]; rfl
  rw [hdt] at hK
  refine wp_region_any hm ?_
  refine pre_sound (B := B) (N := N) (KN := fun ts' m' => sL P ops [ops[n]] ts' m' fun ts'' m'' => sD P ops (ops.drop (n + 1)) ts'' m'' (List.replicate (n + 1) ([], [])) (Q .normal)) (by omega) hw hgl hR hB hok1 hok2 hK ?_ _ _ φ fp S a _ (by simp) ?_ ?_ ?_ ?_
  · intro fuel listed φ fp S ts m a w hu hf h1 hsl
    obtain ⟨fuel, rfl⟩ : ∃ f, fuel = f + 1 := ⟨fuel - 1, by omega⟩
    refine one_sound hw1 hok1 hok2 hon hu h1 hsl fun φ fp S ts m a w h2 hsd => ?_
    have hsz : (listed.setIfInBounds n true).size = ops.length := by simp [hu.1]
    have hup : ∀ i, i < ops.length → (listed.setIfInBounds n true).getD i false = decide (i < n + 1) := by
      intro i hi
      by_cases e : i = n
      · subst e; simp [hu.1, hi]
      · rw [getD_set_ne false (Ne.symm e), hu.2 i hi]
        simp; omega
    have hid : ∀ i, i ≤ n + 1 → Stt (fun i => if i < n + 1 then idleOp else (ops[i]?).getD default) (fun _ => ⟨.undef, []⟩) (fun _ => true) ts m i = (ts, m) := Stt_idle (n := n + 1) _ fun i hi => by simp only [hi, if_true]; rfl
    obtain ⟨qs2, tr2, hR2, hB2, hK2, hq2⟩ := sD_out (os := fun i => if i < n + 1 then idleOp else (ops[i]?).getD default) (ts0 := ts) (m0 := m) (sk := n + 1) (fun i o hi ho => by simp only [Nat.not_lt.2 hi, if_false]; simp [ho]) (ops.drop (n + 1)) (n + 1)
      (fun _ => ⟨.undef, []⟩) (List.replicate (n + 1) ([], [])) ts m rfl (Nat.le_refl _) hn (by simp) (hid _ (Nat.le_refl _)) (fun i o h1 h2 => absurd h2 (Nat.not_lt.2 h1)) hsd
    have hst : Stt (fun i => if i < n + 1 then idleOp else (ops[i]?).getD default) qs2 (fun i => (listed.setIfInBounds n true).getD i false) ts m ops.length = (ts, m) := by
      rw [Stt_stop (j := n + 1) (fun q hq => by
        rcases Nat.lt_or_ge q ops.length with hql | hql
        · rw [hup q hql]; simp; omega
        · rw [Array.getD_eq_getD_getElem?, Array.getElem?_eq_none (by omega)]; rfl) ops.length hn]
      rw [Stt_qs (qs' := fun _ => ⟨.undef, []⟩) (n + 1) hq2]
      have hidle : ∀ (D : Nat → Bool) i, i ≤ n + 1 → Stt (fun i => if i < n + 1 then idleOp else (ops[i]?).getD default) (fun _ => ⟨.undef, []⟩) D ts m i = (ts, m) := by
        intro D i
        induction i with
        | zero => intro _; rfl
        | succ i ih =>
          intro hi
          simp only [Stt]
          rw [ih (by omega)]
          cases D i with
          | false => rfl
          | true => simp only [if_true, show i < n + 1 by omega]; rfl
      exact hidle _ _ (Nat.le_refl _)
    refine any_sound (B := B) (N := N) hR2 hB2 hok1 hok2 hK2 (fun a w hd => hd) _ _ φ fp S a w hsz ?_ (fun i hi => by rw [hup i (by omega)]; simpa using hi) ?_ (by rw [hst]; exact h2)
    · intro j oj hoj hdj i hi
      have hjn := (List.getElem?_eq_some_iff.1 hoj).1
      have h3 := wait_back hw1 j oj hoj i hi
      have hdj : (listed.setIfInBounds n true).getD j false = true := hdj
      show (listed.setIfInBounds n true).getD i false = true
      rw [hup j hjn] at hdj
      rw [hup i (by omega)]
      simp at hdj ⊢; omega
    · have hc : unl ops.length (listed.setIfInBounds n true) ≤ ops.length - (n + 1) := by
        unfold unl
        have : ∀ N, (∀ i, i < N → i < ops.length) → (List.range N).countP (fun i => !(listed.setIfInBounds n true).getD i false) ≤ N - (n + 1) := by
          intro N hN
          induction N with
          | zero => simp
          | succ N ih =>
            have ih := ih fun i hi => hN i (by omega)
            rw [List.range_succ, List.countP_append, List.countP_cons, List.countP_nil, hup N (hN N (by omega))]
            by_cases e : N < n + 1
            · simp only [decide_eq_true e, Bool.not_true, uq0, if_false]; omega
            · simp only [decide_eq_false e, Bool.not_false, if_true]; omega
        exact this _ fun i hi => hi
      omega
  · intro j o _ hd
    have hd : (Array.replicate (List.toArray ops).size false).getD j false = true := hd
    rw [getD_replicate_false] at hd; cases hd
  · exact fun i _ => getD_replicate_false _ _
  · exact Nat.le_trans List.countP_le_length (by simp)
  · have e : (fun i => (Array.replicate (List.toArray ops).size false).getD i false) = fun _ => false := funext fun i => getD_replicate_false _ _
    have e2 := Stt_stop (os := fun i => (ops[i]?).getD default) (qs := qs) (D := fun _ => false) (ts := ts) (m := m) (j := 0) (fun _ _ => rfl) n (Nat.zero_le _)
    show RS B N φ fp S (Stt _ qs (fun i => (Array.replicate (List.toArray ops).size false).getD i false) ts m n).1 (Stt _ qs (fun i => (Array.replicate (List.toArray ops).size false).getD i false) ts m n).2 a { w with drawn := w.drawn + 1 }
    rw [e, e2]
    exact hRS.sameHeap rfl ⟨rfl, rfl, rfl⟩
end Go.Vc


set_option linter.unusedVariables false
set_option linter.unusedSimpArgs false
set_option linter.unnecessarySimpa false
namespace Go.Vc

def keys (m : Mem) : List Nat := m.map (·.1)
section
variable {P : Program} {B : Base} {N : Nat} {φ : Nat → LS} {fp : Nat → List Nat} {S : Nat → Prop} {ts : Env} {m : Mem} {a : Act} {w : World}

end

theorem labs_mkRes {ys : List AV} (h : labsL ys = []) : labs (mkRes ys) = [] := by
  match ys, h with
  | [], _ => simp [mkRes, labs, labsL]
  | [y], h => simpa [mkRes, labsL] using h
  | y :: y' :: r, h => rw [mkRes_two]; simpa [labs] using h

end Go.Vc


set_option linter.unusedVariables false
set_option linter.unusedSimpArgs false
set_option linter.unnecessarySimpa false
namespace Go.Vc

section
variable {P : Program} {B : Base} {N : Nat} {φ : Nat → LS} {fp : Nat → List Nat} {S : Nat → Prop} {ts : Env} {m : Mem} {a : Act} {w : World}

end

def frzOk (l v : Nat) (sh : Sh) (ys : List AV) : List AV → List AV → Prop
  | [], [] => True
  | x :: xs, t :: r => ((∃ i n, x = .ref l v i n ∧ i + n ≤ ys.length ∧ t = .arr sh ((ys.drop i).take n)) ∨ (labs x = [] ∧ isClo x = false ∧ t = x)) ∧ frzOk l v sh ys xs r
  | _, _ => False
theorem frzOk_ref {l v : Nat} {sh : Sh} {ys xs r : List AV} (i n : Nat) (h : i + n ≤ ys.length) (hr : frzOk l v sh ys xs r) : frzOk l v sh ys (.ref l v i n :: xs) (.arr sh ((ys.drop i).take n) :: r) := ⟨.inl ⟨i, n, rfl, h, rfl⟩, hr⟩
theorem frzOk_no {l v : Nat} {sh : Sh} {ys xs r : List AV} {x : AV} (h : labs x = []) (h2 : isClo x = false) (hr : frzOk l v sh ys xs r) : frzOk l v sh ys (x :: xs) (x :: r) := ⟨.inr ⟨h, h2, rfl⟩, hr⟩
theorem sCallT_frz {P : Program} {f : FuncId} {d : Nat} {xs trs xt : List AV} {m : Mem} {k : AV → Mem → Prop} {q : Pack k} {post : AV → Prop} (l v : Nat) (sh : Sh) (dp : Bool) (ys : List AV) (hfn : Fn P f trs false post) (hl : l < ioL)
    (hm : lookB m l = some (.row v sh dp ys)) (hx : frzOk l v sh ys xs trs) (hk : ∀ r, post r → k r ((l, .gone v) :: m)) : sCallT P f d xs xt m k q := by
  refine .inl fun B N φ fp S ts a w vs h hsz hrv hxl => ⟨hfn.1, ?_⟩
  have hf := h.frz hl hm (v := v) rfl
  have hlen : ∀ (xs trs : List AV), frzOk l v sh ys xs trs → trs.length = xs.length ∧ ∀ i (h1 : i < xs.length) (h2 : i < trs.length),
      (∃ j n, xs[i] = .ref l v j n ∧ j + n ≤ ys.length ∧ trs[i] = .arr sh ((ys.drop j).take n)) ∨ (labs xs[i] = [] ∧ isClo xs[i] = false ∧ trs[i] = xs[i]) := by
    intro xs
    induction xs with
    | nil => intro trs hx; cases trs with
      | nil => exact ⟨rfl, fun i h1 => absurd h1 (Nat.not_lt_zero _)⟩
      | cons => exact hx.elim
    | cons x xs ih => intro trs hx; cases trs with
      | nil => exact hx.elim
      | cons t r =>
        obtain ⟨g1, g2⟩ := ih r hx.2
        refine ⟨by simp [g1], fun i h1 h2 => ?_⟩
        cases i with
        | zero => exact hx.1
        | succ i => exact g2 i (by simpa using h1) (by simpa using h2)
  obtain ⟨hlen, helt⟩ := hlen xs trs hx
  refine (hfn.2 w (fun b => S b ∨ b ∈ fp l) vs (fun b hb => (hf.sB b hb).1) hf.kon (hsz.trans hlen.symm) fun i hi => ?_).mono ?_
  · have hi2 : i < xs.length := by omega
    rcases helt i hi2 hi with ⟨j, n, e1, e2, e3⟩ | ⟨e1, e2, e3⟩
    · rw [e3]
      have := hrv i hi2
      rw [e1] at this
      exact frz_rd h hl hm e2 this
    · rw [e3]
      exact (rd_of_rv (hrv i hi2) e1).mono (fun _ _ => rfl) fun _ h => .inl h
  · rintro e w' ⟨r, v', rfl, hr, hg, hres⟩
    simp only [FnRes, uq0, if_false] at hres
    have hRS := (hf.grown hg).hold (fun b => w.heap.size ≤ b ∧ b < w'.heap.size) (fun b hb => ⟨hb.2, Nat.le_trans hf.size hb.1, fun k hk => by have := (hf.fpB k b hk).1; omega⟩)
    exact ⟨v', rfl, _, _, _, ts, _, r, hRS, .rd _ _ hres, fun k ver hk => (by rw [labs_rd hres] at hk; cases hk), rfl, hk r hr⟩

def finS (P : Program) (rs : List ResultVar) (post : AV → Prop) : Post
  | .normal => fun ts m => sResults P (fun xs => sGivAs (fun ys _ => labsL ys = [] ∧ post (mkRes ys)) [] m xs) rs ts m []
  | .ret => fun ts m => sResults P (fun xs => sGivAs (fun ys _ => labsL ys = [] ∧ post (mkRes ys)) [] m xs) rs ts m []
  | _ => fun _ _ => False
theorem finS_ret (P : Program) (rs : List ResultVar) (post : AV → Prop) (ts : Env) (m : Mem) : finS P rs post .ret ts m = sResults P (fun xs => sGivAs (fun ys _ => labsL ys = [] ∧ post (mkRes ys)) [] m xs) rs ts m [] := rfl

theorem Fn.of_vcS' {P : Program} {f : FuncId} {fn : Func} {c : Code} {args : List AV} {post : AV → Prop} (hf : P.funcs[f]? = some fn) (hn : (fn.name == "runtime.NumGoroutine") = false) (hb : fn.body = some c)
    (hok : codeOk fn.ntmps c = true) (ha : args.length ≤ fn.ntmps) (hv : vc P fn.ntmps c (argsE 0 args) [] (finS P fn.results.toList post)) : Fn P f args false post := by
  refine ⟨⟨fn, c, hf, hn, hb⟩, fun w S vs hS hkon hsz hrd => ?_⟩
  refine calls_of_wp hf hb ?_
  have hRS : RS ⟨w, fun _ _ => False, S, fun _ => .dead, []⟩ fn.ntmps (fun _ => .dead) (fun _ => []) S (argsE 0 args) [] { tmps := vs ++ Array.replicate (fn.ntmps - vs.size) undef, defers := [] } w := by
    have hlook : ∀ t, (look (argsE 0 args) t = .undef ∨ ∃ h : t < args.length, look (argsE 0 args) t = args[t]) := by
      intro t
      rw [look_argsE]
      by_cases h : t < args.length
      · exact .inr ⟨h, by simp [h]⟩
      · exact .inl (by simp [h])
    refine { tm := fun t => ?_, tl := fun t l ver hl => ?_, mNone := fun _ _ => ⟨rfl, rfl⟩, mSome := fun l k hk => (by cases hk), bl := fun l v xs hk => (by cases hk), nod := fun _ => List.nodup_nil,
             dis := fun _ _ _ h => (by cases h), notS := fun _ _ h => (by cases h), fpB := fun _ _ h => (by cases h), sB := fun b hb => ⟨hS b hb, .inr hb⟩, base := fun b hb _ => rfl, out := SameOut.refl _, szs := Szs.refl _, kn := fun _ _ _ hk => hk, fix := fun _ _ _ _ => LS.le_refl _ _,
             size := Nat.le_refl _, defers := rfl, tsz := by simp; omega, kon := hkon }
    · rcases hlook t with e | ⟨h, e⟩
      · rw [e]; exact .rd _ _ (.undef _)
      · rw [e]
        have h1 := hrd t h
        have : vs.toList.getD t Go.undef = (vs ++ Array.replicate (fn.ntmps - vs.size) undef).getD t Go.undef := by
          have h2 : t < vs.size := by omega
          simp only [Array.getD_eq_getD_getElem?, List.getD_eq_getElem?_getD, Array.getElem?_toList]
          rw [Array.getElem?_append_left h2]
        rw [← this]
        exact .rd _ _ h1
    · rcases hlook t with e | ⟨h, e⟩
      · rw [e] at hl; cases hl
      · rw [e, labs_rd (hrd t h)] at hl; cases hl
  have hend : ∀ a' w', Done ⟨w, fun _ _ => False, S, fun _ => .dead, []⟩ fn.ntmps (fun ts m => sResults P (fun xs => sGivAs (fun ys _ => labsL ys = [] ∧ post (mkRes ys)) [] m xs) fn.results.toList ts m []) a' w' →
      a'.defers = [] ∧ ∃ v, (results fn a'.tmps).run P w' = .ok v w' ∧ ∃ r v', Ending.returned v = .returned v' ∧ post r ∧ Grown w w' ∧ FnRes w w' S false r v' := by
    rintro a' w' ⟨φ0, fp0, S0, ts', m0, h0, hk⟩
    refine ⟨h0.defers, ?_⟩
    obtain ⟨ys0, us, h1, h2, h3, h4⟩ := results_out' h0 fn.results.toList [] [] ⟨rfl, fun i hi => absurd hi (Nat.not_lt_zero _)⟩ (fun i hi => absurd hi (Nat.not_lt_zero _)) hk
    obtain ⟨φ', fp', S', m', ys, hgv, h3, hlab, hpost⟩ := givAs_out ys0 us [] [] h0 (by simpa using h3) ⟨rfl, fun i hi => absurd hi (Nat.not_lt_zero _)⟩ h1
    have h' := hgv.rs
    obtain ⟨h3a, h3b⟩ := h3
    simp only [uq3] at h3a h3b
    refine ⟨if h : us.toArray.size = 1 then us.toArray[0] else .tuple us.toArray, ?_, mkRes ys, _, rfl, hpost, ⟨h'.size, fun b hb => h'.base b hb (fun _ h => h), h'.out⟩, ?_⟩
    · have hm : results fn a'.tmps = (do let vs ← fn.results.mapM (resOne a'.tmps); pure (if h : vs.size = 1 then vs[0] else .tuple vs)) := by
        unfold results
        congr 1
      rw [hm, Sem.run_bind, Array.mapM_eq_mapM_toList]
      have : (List.toArray <$> fn.results.toList.mapM (resOne a'.tmps) : Sem (Array Value)).run P w' = .ok us.toArray w' := by
        rw [map_eq_pure_bind, Sem.run_bind, h2]; rfl
      rw [this]; rfl
    · show Rd w' _ _ _
      refine (rd_of_rv (mkRes_rv h3a h3b) (labs_mkRes hlab)).mono (fun _ _ => rfl) fun b hb => ?_
      rcases (h'.sB b hb).2 with hh | hh
      · exact .inr ⟨hh, (h'.sB b hb).1⟩
      · exact .inl hh
  refine wp_mono (vc_sound c _ _ _ hok hv _ _ _ _ _ _ hRS) ?_
  intro e a' w' hq
  cases e with
  | normal => exact hend a' w' hq
  | ret => exact hend a' w' hq
  | _ => obtain ⟨_, _, _, _, _, _, hh⟩ := hq; exact hh.elim
theorem Fn.of_vcS {P : Program} {f : FuncId} {fn : Func} {c : Code} {args : List AV} {post : AV → Prop} (N : Nat) (rs : List ResultVar) (hf : P.funcs[f]? = some fn) (hN : fn.ntmps = N) (hr : fn.results.toList = rs) (hn : (fn.name == "runtime.NumGoroutine") = false)
    (hb : fn.body = some c) (hok : codeOk N c = true) (ha : args.length ≤ N) (hv : vc P N c (argsE 0 args) [] (finS P rs post)) : Fn P f args false post := by
  subst hN; subst hr; exact Fn.of_vcS' hf hn hb hok ha hv
attribute [go_sem] finS_ret labs_val labs_arr labsL_nil labsL_cons
end Go.Vc


set_option linter.unusedVariables false
set_option linter.unusedSimpArgs false
set_option linter.unnecessarySimpa false
namespace Go.Vc

def FnMR (P : Program) (f : FuncId) (io : List Blk) (args : List AV) (post : AV → List Blk → Prop) : Prop :=
  Enters P f ∧ ∀ (w : World) (φ : Nat → LS) (fp : Nat → List Nat) (S : Nat → Prop) (vs : Array Value), vs.size = args.length →
    RS (ioB w φ fp S io) vs.size φ fp S (argsE 0 args) (ioM 0 io) { tmps := vs, defers := [] } w →
    Calls P f vs w fun e w' => ∃ r v io' φ' fp' S' m', e = .returned v ∧ post r io' ∧ RS (ioB w φ fp S io) 0 φ' fp' S' [] m' { tmps := #[], defers := [] } w' ∧ IoOk io io' m' ∧ Rd w' S' r v

section
variable {P : Program} {B : Base} {N : Nat} {φ : Nat → LS} {fp : Nat → List Nat} {S : Nat → Prop} {ts : Env} {m : Mem} {a : Act} {w : World}
end
def sCallMR (P : Program) (f : FuncId) (ρ : List Nat) (io : List Blk) (args : List AV) (m : Mem) (k : AV → Mem → Prop) (_ : Pack k) : Prop :=
  ∃ post, FnMR P f io args post ∧ ∀ r io', post r io' → k r (putIo ρ io' m)
@[congr] theorem sCallMR_congr {P : Program} {f : FuncId} {ρ : List Nat} {io io' : List Blk} {args args' : List AV} {m : Mem} {k : AV → Mem → Prop} {q : Pack k} (h : io = io') (h' : args = args') : sCallMR P f ρ io args m k q = sCallMR P f ρ io' args' m k q := by rw [h, h']
def sCallMRX (P : Program) (f : FuncId) (ρ : List Nat) (io : List Blk) (args : List AV) (m : Mem) (k : AV → Mem → Prop) (_ : Pack k) : Prop :=
  ∃ r io1, FnMR P f io args (fun x io' => x = r ∧ io' = io1) ∧ k r (putIo ρ io1 m)
@[congr] theorem sCallMRX_congr {P : Program} {f : FuncId} {ρ : List Nat} {io io' : List Blk} {args args' : List AV} {m : Mem} {k : AV → Mem → Prop} {q : Pack k} (h : io = io') (h' : args = args') : sCallMRX P f ρ io args m k q = sCallMRX P f ρ io' args' m k q := by rw [h, h']
end Go.Vc


set_option linter.unusedVariables false
set_option linter.unusedSimpArgs false
set_option linter.unnecessarySimpa false
namespace Go.Vc

section
variable {P : Program} {N : Nat} {ts : Env} {m : Mem}

end

section
variable {P : Program} {B : Base} {N : Nat} {φ : Nat → LS} {fp : Nat → List Nat} {S : Nat → Prop} {ts : Env} {m : Mem} {a : Act} {w : World}
end

inductive GivB (m : Mem) : Mem → Prop
  | refl : GivB m m
  | box (lb vb j l v i n : Nat) (sh : Sh) (d : Bool) (xs ys : List AV) (hl : l < ioL) (hb : lookB m lb = some (.box vb xs)) (hx : xs[j]? = some (.ref l v i n)) (hm : lookB m l = some (.row v sh d ys)) (hn : i + n ≤ ys.length) :
      GivB m ((lb, .box vb (xs.set j (.arr sh ((ys.drop i).take n)))) :: (l, .gone v) :: m)
end Go.Vc


set_option linter.unusedVariables false
set_option linter.unusedSimpArgs false
set_option linter.unnecessarySimpa false
namespace Go.Vc

section
variable {P : Program} {B : Base} {N : Nat} {φ : Nat → LS} {fp : Nat → List Nat} {S : Nat → Prop} {ts : Env} {m : Mem} {a : Act} {w : World}

theorem RS.putBack (h : RS B N φ fp S ts m a w) {l v i l2 v2 : Nat} {xs ys : List AV} {sh2 : Sh} {u : Value} (hl2 : l2 < ioL) (hlk : lookB m l = some (.row v ⟨1, false⟩ true xs)) (hx : xs[i]? = some (.val u)) (hlk2 : lookB m l2 = some (.sub v2 sh2 ys u)) :
    ∃ φ2 fp2, RS B N φ2 fp2 S ts ((l, .row v ⟨1, false⟩ true (xs.set i (.arr sh2 ys))) :: (l2, .gone v2) :: m) a w := by
  obtain ⟨hi, hxi⟩ := List.getElem?_eq_some_iff.1 hx
  have hne : l2 ≠ l := fun e => by rw [e, hlk] at hlk2; cases hlk2
  rcases h.mSome l _ hlk with ⟨_, h0, _⟩ | ⟨b, cap, hφ, hbm, _, hown⟩
  · rw [h0] at hi; exact absurd hi (Nat.not_lt_zero _)
  simp only [if_true] at hown
  rcases own_arr hown with ⟨h0, _⟩ | ⟨b', cap', cs, e', fss, q1, hfp, hheap, hc, hl', hm, hf, hs, hv⟩
  · rw [h0] at hi; exact absurd hi (Nat.not_lt_zero _)
  simp only [Value.slice.injEq, Option.some.injEq, Addr.mk.injEq] at q1
  obtain ⟨⟨rfl, _⟩, _, rfl⟩ := q1
  obtain ⟨b2, cap2, hφ2, hbm2, hu2, hown2⟩ := h.mSome l2 _ hlk2
  have hlf : i < fss.length := by omega
  have hvi := hv i hi
  rw [hxi, elemV_cell, Nat.mul_one] at hvi
  obtain ⟨hu, hfe, huo⟩ := own_val hvi
  have hR1 := h.give l2 _ hlk2 S (fun _ h => h) (fun b h1 h2 => absurd h1 h2)
  have hperm := set_flatten_perm (fp l2) fss i hlf hfe
  have hpm : (b :: (fss.set i (fp l2)).flatten).Perm (fp l2 ++ fp l) := by
    rw [hfp]
    exact (hperm.cons b).trans List.perm_middle.symm
  have hmem : ∀ c, c ∈ b :: (fss.set i (fp l2)).flatten → c ∈ fp l2 ∨ c ∈ fp l := fun c hc => List.mem_append.1 (hpm.mem_iff.1 hc)
  have hnl : l ≠ l2 := Ne.symm hne
  have hφ1 : upd φ l2 .dead l = φ l := upd_other _ _ _ _ hnl
  refine ⟨_, _, hR1.next l (φ l) (b :: (fss.set i (fp l2)).flatten) S _ (Nat.le_refl _) (SameOut.refl _) (Szs.refl _) (fun _ _ _ => rfl) (fun c hc => ⟨hc, rfl⟩) (fun c h1 h2 => absurd h1 h2) (fun l b sh ver cs e _ hb => ⟨cs, e, hb, rfl⟩)
      (fun _ _ _ _ => rfl) (fun ver _ => by rw [hφ1]; exact LS.le_refl _ _) ?_ ?_ (fun _ _ hk => by cases hk) ?_ ?_⟩
  · rintro ver ⟨k', h1, h2⟩
    rw [lookB_cons, if_neg hne, hlk] at h1; cases h1; exact h2
  · refine .inr ⟨b, cap, by rw [upd_same]; exact hφ, List.mem_cons_self .., fun h => (by cases h), ?_⟩
    refine .arr ⟨1, false⟩ (xs.set i (.arr sh2 ys)) b cap cs e' (fss.set i (fp l2)) hheap hc (by simpa using hl') hm (fun j hj => ?_) (by simpa using hs) fun j hj => ?_
    · rw [List.getElem_set]
      split
      · exact ⟨rfl, rfl⟩
      · exact hf j (by simpa using hj)
    · have hj' : j < xs.length := by simpa using hj
      by_cases ej : i = j
      · subst ej
        have e1 : (fss.set i (fp l2)).getD i [] = fp l2 := by simp [List.getD_eq_getElem?_getD, hlf]
        rw [List.getElem_set_self, e1, elemV_cell, Nat.mul_one, hu]; exact hown2
      · have e1 : (fss.set i (fp l2)).getD j [] = fss.getD j [] := by simp [List.getD_eq_getElem?_getD, List.getElem?_set, ej]
        rw [List.getElem_set_ne ej, e1]; exact hv j hj'
  · refine hpm.nodup_iff.2 (List.nodup_append.2 ⟨h.nod l2, h.nod l, fun c h1 c' h2 e => ?_⟩)
    subst e
    exact hne (h.dis l2 l c h1 h2)
  · intro c hc
    have hoff : ∀ l', l' ≠ l → c ∈ upd fp l2 [] l' → c ∈ fp l' ∧ l' ≠ l2 := fun l' hl' hc' => by
      by_cases e2 : l' = l2
      · subst e2; rw [upd_same] at hc'; cases hc'
      · rw [upd_other _ _ _ _ e2] at hc'; exact ⟨hc', e2⟩
    rcases hmem c hc with hcl | hcl
    · have := h.fpB l2 c hcl
      refine ⟨h.notS l2 c hcl, fun l' hl' hc' => ?_, this.1, .inl (this.2.resolve_right fun hh => Nat.lt_irrefl _ (Nat.lt_of_lt_of_le hl2 hh.choose_spec.2.1))⟩
      obtain ⟨h1, h2⟩ := hoff l' hl' hc'
      exact h2 (h.dis l' l2 c h1 hcl)
    · have := h.fpB l c hcl
      refine ⟨h.notS l c hcl, fun l' hl' hc' => ?_, this.1, this.2⟩
      obtain ⟨h1, h2⟩ := hoff l' hl' hc'
      exact hl' (h.dis l' l c h1 hcl)

theorem RS.known (h : RS B N φ fp S ts m a w) {t l v n : Nat} {sh : Sh} {ys : List AV} (ht : look ts t = .ref l v 0 n) (htN : t < N) (hlk : lookB m l = some (.row v sh true ys)) (hn : n = ys.length) (h0 : 0 < n) (hsz : 0 < sh.sz) :
    ∃ φ2 fp2 u, RS B N φ2 fp2 S ((t, .val u) :: ts) ((l, .sub v sh ys u) :: m) a w := by
  subst hn
  rcases h.mSome l _ hlk with ⟨_, e0, _⟩ | ⟨b, cap, hφ, hbm, _, hown⟩
  · rw [e0] at h0; exact absurd h0 (Nat.lt_irrefl _)
  simp only [if_true] at hown
  have htm := h.tm t
  rw [ht] at htm
  have hr := rv_ref htm
  obtain ⟨ad, cp, hv, hnc, hcp⟩ := hr.1 b sh hφ
  obtain ⟨rfl, cs, e, g1, g2⟩ := hcp.resolve_left (by omega)
  rw [Nat.zero_mul] at hv
  have hown0 := hown
  rcases own_arr hown with ⟨e0, _⟩ | ⟨b', cap', cs', e', fss, q1, hfp, hheap, hc, hl', hm, hf, hs, hvv⟩
  · rw [e0] at h0; exact absurd h0 (Nat.lt_irrefl _)
  simp only [Value.slice.injEq, Option.some.injEq, Addr.mk.injEq] at q1
  obtain ⟨⟨rfl, _⟩, _, rfl⟩ := q1
  obtain rfl := celO_inj (hheap.symm.trans g1)
  have hcc : cp = cap := by
    have : cp * sh.sz = cap * sh.sz := by rw [← hc, g2, Nat.zero_add]
    exact Nat.eq_of_mul_eq_mul_right hsz this
  subst hcc
  have R1 : RS B N (upd φ l (φ l)) (upd fp l (fp l)) S ts ((l, .sub v sh ys (.slice (some ⟨b, 0, none⟩) ys.length cp)) :: m) a w := by
    refine h.next l (φ l) (fp l) S _ (Nat.le_refl _) (SameOut.refl _) (Szs.refl _) (fun _ _ _ => rfl) (fun c hc => ⟨hc, rfl⟩) (fun c h1 h2 => absurd h1 h2) (fun l b sh ver cs e _ hb => ⟨cs, e, hb, rfl⟩)
      (fun _ _ _ _ => rfl) (fun ver _ => LS.le_refl _ _) ?_ ?_ (fun _ _ hk => by cases hk) (h.nod l) ?_
    · rintro ver ⟨k', h1, h2⟩
      rw [hlk] at h1; cases h1; exact h2
    · exact ⟨b, cp, by rw [upd_same]; exact hφ, hbm, rfl, hown0⟩
    · intro c hc
      have := h.fpB l c hc
      exact ⟨h.notS l c hc, fun l' hl' hc' => hl' (h.dis l' l c hc' hc), this.1, this.2⟩
  refine ⟨_, _, _, { R1 with tm := fun t' => ?_, tl := fun t' l' ver hl' => ?_ }⟩
  · rw [look_cons]
    split
    · rename_i e; subst e
      rw [hv]
      exact .rd _ _ (.val _ rfl)
    · exact R1.tm t'
  · rw [look_cons] at hl'
    split at hl'
    · cases hl'
    · exact R1.tl t' l' ver hl'
theorem Later.vc {code : Code} {Q : Post} {q : Pack (code, Q)} (hok : codeOk N code = true) (h : vc P N code ts m Q) : Later P N code ts m Q q := ⟨vc_sound code _ _ _ hok h⟩
end

section
variable {P : Program} {B : Base} {N : Nat} {φ : Nat → LS} {fp : Nat → List Nat} {S : Nat → Prop} {ts : Env} {m : Mem} {a : Act} {w : World}
end

def hk (P : Program) (n : St) : St := fun ts m => ∀ (B : Base) (N : Nat) (φ : Nat → LS) (fp : Nat → List Nat) (S : Nat → Prop) (a : Act) (w : World), RS B N φ fp S ts m a w → ∃ φ2 fp2 S2 ts2 m2, RS B N φ2 fp2 S2 ts2 m2 a w ∧ n ts2 m2
@[congr] theorem hk_congr {P : Program} {n : St} {ts ts' : Env} {m m' : Mem} (h : ts = ts') (h2 : m = m') : hk P n ts m = hk P n ts' m' := by rw [h, h2]
inductive RefP : Env → Mem → Env → Mem → Prop
  | here {ts : Env} {m : Mem} {ts2 : Env} {m2 : Mem} (h : refS ts m ts2 m2) : RefP ts m ts2 m2
  | mv {ts : Env} {m : Mem} {ts2 : Env} {m2 : Mem} (l l' : Nat) (hl : l < ioL) (hl' : l' < ioL) (h : RefP (rnE l l' ts) (rnM l l' m) ts2 m2) : RefP ts m ts2 m2
  | back {ts : Env} {m : Mem} {ts2 : Env} {m2 : Mem} (l v i l2 v2 : Nat) (xs ys : List AV) (sh2 : Sh) (u : Value) (hl2 : l2 < ioL) (hlk : lookB m l = some (.row v ⟨1, false⟩ true xs)) (hx : xs[i]? = some (.val u)) (hlk2 : lookB m l2 = some (.sub v2 sh2 ys u))
      (h : RefP ts ((l, .row v ⟨1, false⟩ true (xs.set i (.arr sh2 ys))) :: (l2, .gone v2) :: m) ts2 m2) : RefP ts m ts2 m2
section
variable {B : Base} {N : Nat} {S : Nat → Prop} {ts : Env} {m : Mem} {a : Act} {w : World} {P : Program}
theorem RS.refineP {ts2 : Env} {m2 : Mem} (hr : RefP ts m ts2 m2) : ∀ {φ : Nat → LS} {fp : Nat → List Nat}, RS B N φ fp S ts m a w → ∃ φ' fp' S', RS B N φ' fp' S' ts2 m2 a w := by
  induction hr with
  | here h => intro φ fp hR; exact ⟨_, _, _, hR.refine h⟩
  | mv l l' hl hl' _ ih => intro φ fp hR; exact ih (hR.ren hl hl')
  | back l v i l2 v2 xs ys sh2 u hl2 hlk hx hlk2 _ ih =>
    intro φ fp hR
    obtain ⟨_, _, hR2⟩ := hR.putBack hl2 hlk hx hlk2
    exact ih hR2
theorem Ok.loopP {body : Code} {ι : Type} (I : ι → Prop) (σ : ι → Env × Mem) (μ : ι → Nat) {Q : Post} (x0 : ι) (h0 : I x0) (hr : RefP ts m (σ x0).1 (σ x0).2)
    (step : ∀ x, I x → Ok P N body (σ x).1 (σ x).2 (thn Q fun ts' m' => ∃ y, I y ∧ μ y < μ x ∧ RefP ts' m' (σ y).1 (σ y).2)) : Ok P N (.loop body) ts m Q := by
  intro B φ fp S a w hRS
  obtain ⟨φ0, fp0, S0, hR0⟩ := hRS.refineP hr
  refine wp_loop_ghost (fun n a w => ∃ x φ fp S, I x ∧ μ x = n ∧ RS B N φ fp S (σ x).1 (σ x).2 a w) (μ x0) ⟨x0, _, _, _, h0, rfl, hR0⟩ ?_
  rintro n a w ⟨x, φ, fp, S, hx, rfl, hRS⟩
  refine wp_mono (step x hx B φ fp S a w hRS) fun e a' w' hq => ?_
  obtain ⟨φ', fp', S', ts', m', h1, h2⟩ := hq
  cases e with
  | normal =>
    obtain ⟨y, hy, hlt, href⟩ := h2
    obtain ⟨φ3, fp3, S3, hR3⟩ := h1.refineP href
    exact ⟨μ y, hlt, y, _, _, _, hy, rfl, hR3⟩
  | _ => exact ⟨φ', fp', S', ts', m', h1, h2⟩
theorem Later.upP {body : Code} (L D E : List Nat) (n : Nat) (I : Nat → Prop) (up : Nat → Env) (um : Nat → Mem) {Q : Post} {q : Pack (Code.loop body, Q)} (h0 : I 0)
    (hr : RefP ts m (up 0 ++ pick L ts) (um 0 ++ dropB D E m)) (hok : codeOk N body = true)
    (step : ∀ i, i < n → I i → Later P N body (up i ++ pick L ts) (um i ++ dropB D E m) (thn Q fun ts' m' => I (i + 1) ∧ RefP ts' m' (up (i + 1) ++ pick L ts) (um (i + 1) ++ dropB D E m)) ⟨⟩)
    (stop : I n → Later P N body (up n ++ pick L ts) (um n ++ dropB D E m) (thn Q fun _ _ => False) ⟨⟩) : Later P N (.loop body) ts m Q q := by
  refine ⟨Ok.loopP (fun i => i ≤ n ∧ I i) (fun i => (up i ++ pick L ts, um i ++ dropB D E m)) (fun i => n - i) 0 ⟨Nat.zero_le _, h0⟩ hr fun i ⟨hi, hI⟩ => ?_⟩
  rcases Nat.lt_or_ge i n with h | h
  · refine Ok.mono (step i h hI).ok fun e ts' m' hq => ?_
    cases e with
    | normal => exact ⟨i + 1, ⟨h, hq.1⟩, by omega, hq.2⟩
    | _ => exact hq
  · have e : i = n := Nat.le_antisymm hi h
    subst e
    refine Ok.mono (stop hI).ok fun e ts' m' hq => ?_
    cases e with
    | normal => exact hq.elim
    | _ => exact hq
end
end Go.Vc


set_option linter.unusedVariables false
set_option linter.unusedSimpArgs false
set_option linter.unnecessarySimpa false
namespace Go.Vc
theorem FnM.row {P : Program} {f : FuncId} (v : Nat) (xs ys : List AV) (hlen : ys.length = xs.length) (hflat : isFlatL xs = true) (hfy : ∀ i (h : i < ys.length), fits ⟨1, false⟩ ys[i]) (hE : Enters P f)
    (hc : ∀ (w : World) (b cap : Nat) (cs : Array Value) (e : El), w.heap[b]? = some (celO cs e) → cs.size = cap → xs.length ≤ cap → (∀ i (h : i < xs.length), Rd w (fun _ => False) xs[i] (cs.toList.getD i Go.undef)) →
      Calls P f #[.slice (some ⟨b, 0, none⟩) xs.length cap] w fun e' w' => e' = .returned (.tuple #[]) ∧ ∃ cs' : Array Value, cs'.size = cs.size ∧ (∀ i (h : i < ys.length), Rd w' (fun _ => False) ys[i] (cs'.toList.getD i Go.undef)) ∧
        w'.heap[b]? = some (celO cs' e) ∧ (∀ c : Nat, c ≠ b → c < w.heap.size → w'.heap[c]? = w.heap[c]?) ∧ w.heap.size ≤ w'.heap.size ∧ SameOut w w')
    (h0 : xs = [] → ∀ (a : Option Addr) (w : World), Calls P f #[.slice a 0 0] w fun e' w' => e' = .returned (.tuple #[]) ∧ Grown w w') :
    FnM P f [.row v ⟨1, false⟩ true xs] [.ref 1000000000 v 0 xs.length] (fun r io => r = .tup [] ∧ io = [.row v ⟨1, false⟩ true ys]) := by
  refine ⟨hE, fun w φ fp S vs hsz hR => ?_⟩
  have hv0 := hR.tm 0
  have hlk : lookB (ioM 0 [Blk.row v ⟨1, false⟩ true xs]) ioL = some (.row v ⟨1, false⟩ true xs) := rfl
  obtain ⟨u, rfl⟩ : ∃ u, vs = #[u] := by
    have : vs.size = 1 := hsz
    exact ⟨vs[0], by apply Array.ext <;> simp_all⟩
  have hx : RV w S φ (.ref 1000000000 v 0 xs.length) u := hv0
  obtain ⟨r1, r2⟩ := rv_ref hx
  have fin : ∀ (w' : World) (fp' : Nat → List Nat) (k : Blk), k = .row v ⟨1, false⟩ true ys → RS (ioB w φ fp S [.row v ⟨1, false⟩ true xs]) (#[u] : Array Value).size φ fp' S (argsE 0 [.ref 1000000000 v 0 xs.length]) ((ioL, k) :: ioM 0 [.row v ⟨1, false⟩ true xs]) { tmps := #[u], defers := [] } w' →
      ∃ r v' io' φ' fp' S' m', Ending.returned (Value.tuple #[]) = .returned v' ∧ (r = .tup [] ∧ io' = [Blk.row v ⟨1, false⟩ true ys]) ∧ RS (ioB w φ fp S [.row v ⟨1, false⟩ true xs]) 0 φ' fp' S' [] m' { tmps := #[], defers := [] } w' ∧ IoOk [.row v ⟨1, false⟩ true xs] io' m' ∧
        ∃ fs, Own w' (fun _ => False) r v' fs ∧ fs.Nodup ∧ ∀ b, b ∈ fs → w.heap.size ≤ b ∧ ¬ S' b ∧ ∀ l, ioL ≤ l → b ∉ fp' l := by
    rintro w' fp' k rfl h
    refine ⟨.tup [], .tuple #[], _, φ, fp', S, _, rfl, ⟨rfl, rfl⟩, { h with tm := fun t => by rw [look_nil]; exact .rd _ _ (.undef _), tl := fun t l ver hl => (by rw [look_nil] at hl; cases hl), defers := rfl, tsz := rfl }, ⟨rfl, fun j hj hj' => ?_⟩, [], .rd _ _ (.tup [] #[] rfl fun i hi => absurd hi (Nat.not_lt_zero _)), List.nodup_nil, fun b hb => by cases hb⟩
    have : j = 0 := by simpa using hj
    subst this
    exact ⟨by simp [lookB_cons], rfl, trivial⟩
  have nilCase : xs = [] → (∃ a, u = .slice a 0 0) → Calls P f #[u] w fun e' w' => ∃ r v' io' φ' fp' S' m', e' = .returned v' ∧ (r = .tup [] ∧ io' = [Blk.row v ⟨1, false⟩ true ys]) ∧ RS (ioB w φ fp S [.row v ⟨1, false⟩ true xs]) 0 φ' fp' S' [] m' { tmps := #[], defers := [] } w' ∧ IoOk [.row v ⟨1, false⟩ true xs] io' m' ∧
        ∃ fs, Own w' (fun _ => False) r v' fs ∧ fs.Nodup ∧ ∀ b, b ∈ fs → w.heap.size ≤ b ∧ ¬ S' b ∧ ∀ l, ioL ≤ l → b ∉ fp' l := by
    rintro h1 ⟨a, rfl⟩
    have hy : ys = [] := List.eq_nil_of_length_eq_zero (by rw [hlen, h1]; rfl)
    refine (h0 h1 a w).mono ?_
    rintro e' w' ⟨rfl, hg⟩
    have hR2 := hR.grown hg
    refine fin w' fp (.row v ⟨1, false⟩ true ys) rfl ?_
    have e1 : lookB (ioM 0 [Blk.row v ⟨1, false⟩ true xs]) = lookB ((ioL, .row v ⟨1, false⟩ true ys) :: ioM 0 [.row v ⟨1, false⟩ true xs]) := by
      funext l
      rw [lookB_cons]
      split
      · rename_i e; subst e; rw [hlk, h1, hy]
      · rfl
    have kn : ∀ l ver, known (ioM 0 [Blk.row v ⟨1, false⟩ true xs]) l ver → known ((ioL, .row v ⟨1, false⟩ true ys) :: ioM 0 [.row v ⟨1, false⟩ true xs]) l ver := by
      rintro l ver ⟨k', q1, q2⟩
      exact ⟨k', by rw [← e1]; exact q1, q2⟩
    exact { hR2 with tl := fun t l ver hl => kn l ver (hR2.tl t l ver hl), mNone := fun l hl => hR2.mNone l (by rw [e1]; exact hl), mSome := fun l k hk => hR2.mSome l k (by rw [e1]; exact hk), bl := fun l v xs hb l' ver hl => kn l' ver (hR2.bl l v xs (by rw [e1]; exact hb) l' ver hl), kn := fun l ver h1 h2 => kn l ver (hR2.kn l ver h1 h2) }
  rcases hR.mSome ioL _ hlk with ⟨hφ, hxs, _⟩ | ⟨b, cap, hφ, hbm, _, hown⟩
  · exact nilCase hxs (r2 hφ).2
  · simp only [if_true] at hown
    obtain ⟨a, cap', rfl, hn, hcp⟩ := r1 b _ hφ
    rcases hcp with rfl | ⟨rfl, cs0, e0, hh0, hs0⟩
    · have hx0 : xs = [] := List.eq_nil_of_length_eq_zero (by omega)
      exact nilCase hx0 ⟨a, by rw [hx0]; rfl⟩
    · rcases own_arr hown with ⟨hx0, hf0, _⟩ | ⟨b', cap2, cs, e, fss, q1, hgf, hheap, hcs, hcap, hmx, hff, hfl, hvv⟩
      · rw [hf0] at hbm; cases hbm
      · simp only [Value.slice.injEq, Option.some.injEq, Addr.mk.injEq] at q1
        obtain ⟨⟨rfl, _⟩, _, rfl⟩ := q1
        rw [hheap] at hh0
        simp only [Option.some.injEq, Obj.cells.injEq] at hh0
        obtain ⟨rfl, -, -⟩ := hh0
        simp only [Nat.mul_one, Nat.zero_add] at hs0 hcs
        have hfe : ∀ i (h : i < xs.length), Rd w (fun _ => False) xs[i] (cs.toList.getD i Go.undef) ∧ fss.getD i [] = [] := by
          intro i hi
          have := flat_rd (S' := fun _ => False) (hvv i hi) (isFlatL_get hflat i hi)
          rw [elemV_cell, Nat.mul_one] at this
          exact this
        have hfs : fss.flatten = [] := List.flatten_eq_nil_iff.2 fun l hl => by
          obtain ⟨i, hi, rfl⟩ := List.getElem_of_mem hl
          have := (hfe i (hfl ▸ hi)).2
          rwa [List.getD_eq_getElem?_getD, List.getElem?_eq_getElem hi] at this
        rw [hfs] at hgf
        refine (hc w b cap' cs e hheap hs0 hn fun i hi => (hfe i hi).1).mono ?_
        rintro e' w' ⟨rfl, cs', hs', hr', hb', hoth, hsize, hout⟩
        have hbl := (hR.fpB ioL b (by rw [hgf]; simp)).1
        have hnx := hR.next (w' := w') ioL (φ ioL) (fp ioL) S (.row v ⟨1, false⟩ true ys) hsize hout ?_ ?_ ?_ (fun c h1 h2 => absurd h1 h2) ?_ ?_ (fun ver _ => LS.le_refl _ _) ?_ ?_ (fun _ _ hk => by cases hk) (hR.nod ioL) ?_
        · have e1 : upd φ ioL (φ ioL) = φ := by funext l; by_cases e : l = ioL <;> simp [upd, e]
          rw [e1] at hnx
          exact fin w' _ _ rfl hnx
        · intro c cs2 e2 hc2
          by_cases ec : c = b
          · subst ec; obtain rfl := celO_inj (hheap.symm.trans hc2); exact ⟨cs', e, hb', hs'⟩
          · exact ⟨cs2, e2, by rw [hoth c ec (Array.getElem?_eq_some_iff.1 hc2).1]; exact hc2, rfl⟩
        · intro c hcl hio
          exact hoth c (fun ec => hio ioL (by subst ec; show c ∈ fp ioL; rw [hgf]; simp)) hcl
        · intro c hcS
          exact ⟨hcS, hoth c (fun ec => hR.notS ioL b (by rw [hgf]; simp) (ec ▸ hcS)) (hR.sB c hcS).1⟩
        · intro l c sh ver cs2 e2 _ hc2
          by_cases ec : c = b
          · subst ec; obtain rfl := celO_inj (hheap.symm.trans hc2); exact ⟨cs', e, hb', hs'⟩
          · exact ⟨cs2, e2, by rw [hoth c ec (Array.getElem?_eq_some_iff.1 hc2).1]; exact hc2, rfl⟩
        · intro l' hl' c hcl
          exact hoth c (fun ec => hl' (hR.dis l' ioL c hcl (by rw [ec, hgf]; simp))) (hR.fpB l' c hcl).1
        · rintro ver ⟨k', q1, q2⟩
          rw [hlk] at q1; cases q1; exact q2
        · refine .inr ⟨b, cap, by rw [upd_same]; exact hφ, by rw [hgf]; simp, fun h => (by cases h), ?_⟩
          rw [hgf]
          have e2 : [b] = b :: (List.replicate ys.length ([] : List Nat)).flatten := by
            congr 1
            exact (List.flatten_eq_nil_iff.2 fun l hl => (List.mem_replicate.1 hl).2).symm
          show Own w' (fun _ => False) _ _ [b]
          rw [e2]
          refine .arr ⟨1, false⟩ ys b cap cs' e _ hb' (by rw [hs', hcs]; simp) (by omega) hmx hfy (by simp) fun i hi => ?_
          have e3 : (List.replicate ys.length ([] : List Nat)).getD i [] = [] := by simp [List.getD_eq_getElem?_getD, hi]
          rw [e3, elemV_cell, Nat.mul_one]
          exact .rd _ _ (hr' i hi)
        · intro c hc2
          have := hR.fpB ioL c hc2
          exact ⟨hR.notS ioL c hc2, fun l' hl' hc' => hl' (hR.dis l' ioL c hc' hc2), Nat.lt_of_lt_of_le this.1 hsize, this.2⟩
end Go.Vc


set_option linter.unusedVariables false
set_option linter.unusedSimpArgs false
set_option linter.unnecessarySimpa false
namespace Go.Vc
open Go.Sort
theorem flatInts : ∀ zs : List Int, isFlatL (zs.map fun n => AV.val (.int .i64 n)) = true
  | [] => rfl
  | _ :: r => by rw [List.map_cons, isFlatL_cons, flatInts r]; rfl
theorem holds_rd {w : World} {b : Nat} {cs : Array Value} {e : El} {zs : List Int} (hb : w.heap[b]? = some (celO cs e)) (hcap : zs.length ≤ cs.size)
    (hrd : ∀ i (h : i < (zs.map fun n => AV.val (.int .i64 n)).length), Rd w (fun _ => False) (zs.map fun n => AV.val (.int .i64 n))[i] (cs.toList.getD i Go.undef)) : Holds (Value.int .i64) w b 0 zs.toArray := by
  intro j hj
  have hj' : j < zs.length := by simpa using hj
  have h1 := hrd j (by simpa using hj')
  rw [List.getElem_map] at h1
  have h2 : cs.toList.getD j Go.undef = .int .i64 zs[j] := by generalize cs.toList.getD j Go.undef = u at h1; cases h1; rfl
  have h3 : j < cs.size := by omega
  have h5 : cs[j]? = some (.int .i64 zs[j]) := by
    rw [List.getD_eq_getElem?_getD, Array.getElem?_toList, Array.getElem?_eq_getElem h3] at h2
    rw [Array.getElem?_eq_getElem h3]
    exact congrArg some h2
  have h6 : zs.toArray[j]! = zs[j] := by rw [getElem!_pos zs.toArray j hj]; simp
  refine ⟨?_, ?_⟩
  · simp only [World.cell?, hb, Nat.zero_add, Option.isSome_none, uq0, ↓reduceIte, h5, h6]
  · have := celO_free hb h3
    simpa using this
theorem put_facts {w : World} {b n : Nat} {cs : Array Value} {e : El} {ys : List Int} {os : Array Obj} (hb : w.heap[b]? = some (celO cs e)) (hcs : ys.length ≤ cs.size) :
    ∃ cs' : Array Value, cs'.size = cs.size ∧ (∀ i (h : i < (ys.map fun n => AV.val (.int .i64 n)).length), Rd (grow (putRow (Value.int .i64) (Sort.ahead w n) b 0 ys.toArray) os) (fun _ => False) (ys.map fun n => AV.val (.int .i64 n))[i] (cs'.toList.getD i Go.undef)) ∧
      (grow (putRow (Value.int .i64) (Sort.ahead w n) b 0 ys.toArray) os).heap[b]? = some (celO cs' e) ∧ (∀ c : Nat, c ≠ b → c < w.heap.size → (grow (putRow (Value.int .i64) (Sort.ahead w n) b 0 ys.toArray) os).heap[c]? = w.heap[c]?) ∧
      w.heap.size ≤ (grow (putRow (Value.int .i64) (Sort.ahead w n) b 0 ys.toArray) os).heap.size ∧ SameOut w (grow (putRow (Value.int .i64) (Sort.ahead w n) b 0 ys.toArray) os) := by
  have hbl : b < w.heap.size := (Array.getElem?_eq_some_iff.1 hb).1
  have hheap : ∀ c : Nat, c < w.heap.size → (grow (putRow (Value.int .i64) (Sort.ahead w n) b 0 ys.toArray) os).heap[c]? = if b = c then w.heap[c]?.map (onCells (putCells (Value.int .i64) 0 ys.toArray)) else w.heap[c]? := by
    intro c hc
    rw [heap_grow_old _ _ (by simpa using hc)]
    simp only [putRow, mapBlock, Sort.heap_ahead, Array.getElem?_modify]
  refine ⟨putCells (Value.int .i64) 0 ys.toArray cs, by simp [putCells], ?_, ?_, ?_, ?_, ⟨rfl, rfl, rfl⟩⟩
  · intro i hi
    have hi' : i < ys.length := by simpa using hi
    have hi2 : i < cs.size := by omega
    have e1 : (putCells (Value.int .i64) 0 ys.toArray cs).toList.getD i Go.undef = .int .i64 ys[i] := by
      rw [List.getD_eq_getElem?_getD, Array.getElem?_toList]
      simp [putCells, hi2, hi']
    rw [e1, List.getElem_map]
    exact .val _ rfl
  · have hs : (putCells (Value.int .i64) 0 ys.toArray cs).size = cs.size := by simp [putCells]
    rw [hheap b hbl, if_pos rfl, hb]
    show some (Obj.cells (putCells (Value.int .i64) 0 ys.toArray cs) e.1 (frOf e cs.size)) = some (Obj.cells (putCells (Value.int .i64) 0 ys.toArray cs) e.1 (frOf e (putCells (Value.int .i64) 0 ys.toArray cs).size))
    rw [hs]
  · intro c hcb hc
    rw [hheap c hc, if_neg (Ne.symm hcb)]
  · simp
theorem FnM.sortRow {P : Program} {f : FuncId} (hE : Enters P f) (g : List Int → List Int) (hg : ∀ zs, (g zs).length = zs.length)
    (hs : ∀ (blk cap : Nat) (zs : List Int) (w : World), Holds (Value.int .i64) w blk 0 zs.toArray → blk < w.heap.size → zs.length < 4611686018427387904 →
      Calls P f #[.slice (some ⟨blk, 0, none⟩) zs.length cap] w fun e w' => e = .returned (.tuple #[]) ∧ ∃ n os, w' = grow (putRow (Value.int .i64) (Sort.ahead w n) blk 0 (g zs).toArray) os)
    (h0 : ∀ (a : Option Addr) (w : World), Calls P f #[.slice a 0 0] w fun e w' => e = .returned (.tuple #[]) ∧ w' = w)
    (v : Nat) (zs : List Int) (hz : zs.length ≤ 1048576) :
    FnM P f [.row v ⟨1, false⟩ true (zs.map fun n => .val (.int .i64 n))] [.ref 1000000000 v 0 zs.length] (fun r io => r = .tup [] ∧ io = [.row v ⟨1, false⟩ true ((g zs).map fun n => .val (.int .i64 n))]) := by
  have := FnM.row (P := P) (f := f) v (zs.map fun n => AV.val (.int .i64 n)) ((g zs).map fun n => AV.val (.int .i64 n)) (by simp [hg])
    (flatInts zs) (by intro i hi; simp [fits]) hE ?_ ?_
  · simpa using this
  · intro w b cap cs e hb hcs hcap hrd
    have h4 : (zs.map fun n => AV.val (.int .i64 n)).length = zs.length := List.length_map _
    have h1 := hs b cap zs w (holds_rd hb (by omega) hrd) (Array.getElem?_eq_some_iff.1 hb).1 (by omega)
    rw [List.length_map]
    refine h1.mono ?_
    rintro e' w' ⟨rfl, n, os, rfl⟩
    exact ⟨rfl, put_facts hb (by rw [hg]; omega)⟩
  · intro hx a w
    refine (h0 a w).mono ?_
    rintro e' w' ⟨rfl, rfl⟩
    exact ⟨rfl, Grown.refl _⟩

section
variable {P : Program} {m : Mem}
theorem sCallIo_row {f : FuncId} {l ver j : Nat} {xs ys : List AV} {k : AV → Mem → Prop} (hE : Enters P f) (hlk : lookB m l = some (.row ver ⟨1, false⟩ true xs)) (hflat : isFlatL xs = true) (hlen : ys.length = xs.length) (hj : j ≤ xs.length)
    (hfy : ∀ i (h : i < ys.length), fits ⟨1, false⟩ ys[i])
    (hc : ∀ (w : World) (b cap : Nat) (cs : Array Value) (e : El), w.heap[b]? = some (celO cs e) → cs.size = cap → xs.length ≤ cap → (∀ i (h : i < xs.length), Rd w (fun _ => False) xs[i] (cs.toList.getD i Go.undef)) →
      Calls P f #[.slice (some ⟨b, 0, none⟩) xs.length cap] w fun e' w' => e' = .returned (.slice (some ⟨b, 0, none⟩) j cap) ∧ ∃ cs' : Array Value, cs'.size = cs.size ∧ (∀ i (h : i < ys.length), Rd w' (fun _ => False) ys[i] (cs'.toList.getD i Go.undef)) ∧
        w'.heap[b]? = some (celO cs' e) ∧ (∀ c : Nat, c ≠ b → c < w.heap.size → w'.heap[c]? = w.heap[c]?) ∧ w.heap.size ≤ w'.heap.size ∧ SameOut w w')
    (h0 : xs = [] → ∀ (a : Option Addr) (w : World), Calls P f #[.slice a 0 0] w fun e' w' => e' = .returned (.slice a 0 0) ∧ Grown w w')
    (hk : k (.ref l (ver + 1) 0 j) ((l, .row (ver + 1) ⟨1, false⟩ true ys) :: m)) : sCallIo P f [.ref l ver 0 xs.length] m k := by
  refine fun B N φ fp S ts a w vs hR hsz hx hxl => ⟨hE, ?_⟩
  obtain ⟨u, rfl⟩ : ∃ u, vs = #[u] := by
    have : vs.size = 1 := hsz
    exact ⟨vs[0], by apply Array.ext <;> simp_all⟩
  have hx0 : RV w S φ (.ref l ver 0 xs.length) u := hx 0 (by simp)
  obtain ⟨r1, r2⟩ := rv_ref hx0
  have hver : ∀ v', known m l v' → v' < ver + 1 := by
    rintro v' ⟨k', h1, h2⟩
    rw [hlk] at h1; cases h1; exact Nat.lt_succ_of_le h2
  have nilCase : xs = [] → (∃ a', u = .slice a' 0 0) → Calls P f #[u] w fun e' w' => ∃ v, e' = .returned v ∧ Gives B N a (fun x ts' m' => ts' = ts ∧ k x m') v w' := by
    rintro h1 ⟨a', rfl⟩
    have hy : ys = [] := List.eq_nil_of_length_eq_zero (by rw [hlen, h1]; rfl)
    have hj0 : j = 0 := by rw [h1] at hj; simpa using hj
    refine (h0 h1 a' w).mono ?_
    rintro e' w' ⟨rfl, hg⟩
    refine ⟨_, rfl, (hR.grown hg).nilNext hver (nv := ver + 1) (sh := ⟨1, false⟩) (deep := true) ⟨rfl, ?_⟩⟩
    rw [hy, hj0] at hk; exact hk
  rcases hR.mSome l _ hlk with ⟨hφ, hxs, _⟩ | ⟨b, cap, hφ, hbm, _, hown⟩
  · exact nilCase hxs (r2 hφ).2
  · simp only [if_true] at hown
    obtain ⟨ad, cap', rfl, hn, hcp⟩ := r1 b _ hφ
    rcases hcp with rfl | ⟨rfl, cs0, e0, hh0, hs0⟩
    · have hx1 : xs = [] := List.eq_nil_of_length_eq_zero (by omega)
      exact nilCase hx1 ⟨ad, by rw [hx1]; rfl⟩
    · rcases own_arr hown with ⟨hx1, hf0, _⟩ | ⟨b', cap2, cs, e, fss, q1, hgf, hheap, hcs, hcap, hmx, hff, hfl, hvv⟩
      · rw [hf0] at hbm; cases hbm
      · simp only [Value.slice.injEq, Option.some.injEq, Addr.mk.injEq] at q1
        obtain ⟨⟨rfl, _⟩, _, rfl⟩ := q1
        rw [hheap] at hh0
        simp only [Option.some.injEq, Obj.cells.injEq] at hh0
        obtain ⟨rfl, -, -⟩ := hh0
        simp only [Nat.mul_one, Nat.zero_add] at hs0 hcs
        have hfe : ∀ i (h : i < xs.length), Rd w (fun _ => False) xs[i] (cs.toList.getD i Go.undef) ∧ fss.getD i [] = [] := by
          intro i hi
          have := flat_rd (S' := fun _ => False) (hvv i hi) (isFlatL_get hflat i hi)
          rw [elemV_cell, Nat.mul_one] at this
          exact this
        have hfs : fss.flatten = [] := List.flatten_eq_nil_iff.2 fun l hl => by
          obtain ⟨i, hi, rfl⟩ := List.getElem_of_mem hl
          have := (hfe i (hfl ▸ hi)).2
          rwa [List.getD_eq_getElem?_getD, List.getElem?_eq_getElem hi] at this
        rw [hfs] at hgf
        rw [show (0 : Nat) * (1 : Nat) = 0 from rfl]
        refine (hc w b cap' cs e hheap hs0 hn fun i hi => (hfe i hi).1).mono ?_
        rintro e' w' ⟨rfl, cs', hs', hr', hb', hoth, hsize, hout⟩
        have hbl : b < w.heap.size := (Array.getElem?_eq_some_iff.1 hheap).1
        have hszs : Szs w w' := by
          intro c cs2 e2 hc2
          by_cases ec : c = b
          · subst ec; obtain rfl := celO_inj (hheap.symm.trans hc2); exact ⟨cs', e, hb', hs'⟩
          · exact ⟨cs2, e2, by rw [hoth c ec (Array.getElem?_eq_some_iff.1 hc2).1]; exact hc2, rfl⟩
        refine ⟨_, rfl, hR.rowNext (b := b) (cap := cap) (n := j) (nv := ver + 1) (sh := ⟨1, false⟩) (deep := true) (xs := ys) (fs := [b]) hsize hout hszs hoth
          (fun l b sh ver cs e _ hb => hszs b cs e hb) (.inl hbm) hver (fun c hc => .inl (by simpa using hc)) (by simp) (fun h => (by cases h)) (by simp) ?_ ?_ ⟨rfl, hk⟩⟩
        · have e2 : [b] = b :: (List.replicate ys.length ([] : List Nat)).flatten := by
            congr 1
            exact (List.flatten_eq_nil_iff.2 fun l hl => (List.mem_replicate.1 hl).2).symm
          show Own w' (fun _ => False) _ _ [b]
          rw [e2]
          refine .arr ⟨1, false⟩ ys b cap cs' e _ hb' (by rw [hs', hcs]; simp) (by omega) hmx hfy (by simp) fun i hi => ?_
          have e3 : (List.replicate ys.length ([] : List Nat)).getD i [] = [] := by simp [List.getD_eq_getElem?_getD, hi]
          rw [e3, elemV_cell, Nat.mul_one]
          exact .rd _ _ (hr' i hi)
        · exact ⟨some ⟨b, 0, none⟩, cap', rfl, by omega, .inr ⟨rfl, cs', e, hb', by rw [hs', hs0]; simp⟩⟩
theorem sCallIo_ints {f : FuncId} {l ver n : Nat} {zs ys : List Int} {k : AV → Mem → Prop} (j : Nat) (hE : Enters P f) (hlk : lookB m l = some (.row ver ⟨1, false⟩ true (zs.map fun n => .val (.int .i64 n)))) (hn : n = zs.length) (hlen : ys.length = zs.length) (hj : j ≤ zs.length)
    (hz : zs.length ≤ 1048576)
    (hc : ∀ (blk cap : Nat) (w : World), Holds (Value.int .i64) w blk 0 zs.toArray → zs.length ≤ cap →
      Calls P f #[.slice (some ⟨blk, 0, none⟩) zs.length cap] w fun e' w' => e' = .returned (.slice (some ⟨blk, 0, none⟩) j cap) ∧ ∃ q, w' = putRow (Value.int .i64) (Sort.ahead w q) blk 0 ys.toArray)
    (h0 : ∀ (a : Option Addr) (w : World), Calls P f #[.slice a 0 0] w fun e' w' => e' = .returned (.slice a 0 0) ∧ w' = w)
    (hk : k (.ref l (ver + 1) 0 j) ((l, .row (ver + 1) ⟨1, false⟩ true (ys.map fun n => .val (.int .i64 n))) :: m)) : sCallIo P f [.ref l ver 0 n] m k := by
  have h4 : (zs.map fun n => AV.val (.int .i64 n)).length = zs.length := List.length_map _
  rw [hn, ← h4]
  refine sCallIo_row hE hlk (flatInts zs) (ys := ys.map fun n => .val (.int .i64 n)) (j := j) (by simp [hlen]) (by omega) (by intro i hi; simp [fits]) ?_ ?_ hk
  · intro w b cap cs e hb hcs hcap hrd
    have h1 := hc b cap w (holds_rd hb (by omega) hrd) (by omega)
    rw [h4]
    refine h1.mono ?_
    rintro e' w' ⟨rfl, n, rfl⟩
    refine ⟨rfl, ?_⟩
    have := put_facts (os := #[]) (n := n) (ys := ys) hb (by omega)
    simpa only [grow_empty] using this
  · intro hx a w
    refine (h0 a w).mono ?_
    rintro e' w' ⟨rfl, rfl⟩
    exact ⟨rfl, Grown.refl _⟩
theorem sCallT_ints {f : FuncId} {d l ver n : Nat} {zs ys : List Int} {xt : List AV} {k : AV → Mem → Prop} {q : Pack k} (j : Nat) (hE : Enters P f) (hlk : lookB m l = some (.row ver ⟨1, false⟩ true (zs.map fun n => .val (.int .i64 n)))) (hn : n = zs.length) (hlen : ys.length = zs.length) (hj : j ≤ zs.length)
    (hz : zs.length ≤ 1048576)
    (hc : ∀ (blk cap : Nat) (w : World), Holds (Value.int .i64) w blk 0 zs.toArray → zs.length ≤ cap →
      Calls P f #[.slice (some ⟨blk, 0, none⟩) zs.length cap] w fun e' w' => e' = .returned (.slice (some ⟨blk, 0, none⟩) j cap) ∧ ∃ q, w' = putRow (Value.int .i64) (Sort.ahead w q) blk 0 ys.toArray)
    (h0 : ∀ (a : Option Addr) (w : World), Calls P f #[.slice a 0 0] w fun e' w' => e' = .returned (.slice a 0 0) ∧ w' = w)
    (hk : k (.ref l (ver + 1) 0 j) ((l, .row (ver + 1) ⟨1, false⟩ true (ys.map fun n => .val (.int .i64 n))) :: m)) : sCallT P f d [.ref l ver 0 n] xt m k q :=
  .inl (sCallIo_ints j hE hlk hn hlen hj hz hc h0 hk)
theorem sCallX_ints {f : FuncId} {d l ver n : Nat} {zs ys : List Int} {xt : List AV} {k : AV → Mem → Prop} {q : Pack k} (j : Nat) (hE : Enters P f) (hlk : lookB m l = some (.row ver ⟨1, false⟩ true (zs.map fun n => .val (.int .i64 n)))) (hn : n = zs.length) (hlen : ys.length = zs.length) (hj : j ≤ zs.length)
    (hz : zs.length ≤ 1048576)
    (hc : ∀ (blk cap : Nat) (w : World), Holds (Value.int .i64) w blk 0 zs.toArray → zs.length ≤ cap →
      Calls P f #[.slice (some ⟨blk, 0, none⟩) zs.length cap] w fun e' w' => e' = .returned (.slice (some ⟨blk, 0, none⟩) j cap) ∧ ∃ q, w' = putRow (Value.int .i64) (Sort.ahead w q) blk 0 ys.toArray)
    (h0 : ∀ (a : Option Addr) (w : World), Calls P f #[.slice a 0 0] w fun e' w' => e' = .returned (.slice a 0 0) ∧ w' = w)
    (hk : k (.ref l (ver + 1) 0 j) ((l, .row (ver + 1) ⟨1, false⟩ true (ys.map fun n => .val (.int .i64 n))) :: m)) : sCallX P f d [.ref l ver 0 n] xt m k q :=
  .inr (.inr ⟨_, [_], hk, fun m' a _ k' hk' => sCallIo_ints j hE ((a l ⟨_, List.mem_singleton.2 rfl, NL.ref _ _ _ _⟩).trans hlk) hn hlen hj hz hc h0 hk'⟩)
end
end Go.Vc


set_option linter.unusedVariables false
set_option linter.unusedSimpArgs false
set_option linter.unnecessarySimpa false
namespace Go.Proofs
open Go.Shelf
def Tryz.laySort_ren : Go.Shelf.Ren := ⟨fun | 53 => 103 | 64 => 131 | 63 => 130 | 78 => 154 | 79 => 155 | 70 => 145 | 71 => 146 | 72 => 147 | 73 => 148 | 74 => 149 | 75 => 150 | 59 => 151 | 76 => 152 | 77 => 153 | 88 => 164 | 89 => 165 | 90 => 166 | 91 => 167 | 92 => 168 | 68 => 118 | 96 => 177 | n => n, fun | 22 => 31 | 23 => 2 | 3 => 3 | 51 => 97 | 0 => 0 | 67 => 156 | 69 => 158 | 4 => 4 | 61 => 149 | 60 => 148 | 44 => 69 | 5 => 5 | 9 => 9 | 75 => 168 | 79 => 172 | 83 => 181 | 84 => 182 | n => n, fun | n => n⟩
theorem Tryz.laySort : Go.Proofs.SlLaysN.n53 Tryz.prog Tryz.laySort_ren := {
  mixed := by kernel_rfl
  f53 := ⟨Tryz.f103.name, by decide, Tryz.func103.trans (congrArg some (by kernel_rfl))⟩
  f59 := ⟨Tryz.f151.name, by decide, Tryz.func151.trans (congrArg some (by kernel_rfl))⟩
  f63 := ⟨Tryz.f130.name, by decide, Tryz.func130.trans (congrArg some (by kernel_rfl))⟩
  f64 := Tryz.func131.trans (congrArg some (by kernel_rfl))
  f68 := ⟨Tryz.f118.name, by decide, Tryz.func118.trans (congrArg some (by kernel_rfl))⟩
  f70 := ⟨Tryz.f145.name, by decide, Tryz.func145.trans (congrArg some (by kernel_rfl))⟩
  f71 := ⟨Tryz.f146.name, by decide, Tryz.func146.trans (congrArg some (by kernel_rfl))⟩
  f72 := ⟨Tryz.f147.name, by decide, Tryz.func147.trans (congrArg some (by kernel_rfl))⟩
  f73 := ⟨Tryz.f148.name, by decide, Tryz.func148.trans (congrArg some (by kernel_rfl))⟩
  f74 := ⟨Tryz.f149.name, by decide, Tryz.func149.trans (congrArg some (by kernel_rfl))⟩
  f75 := ⟨Tryz.f150.name, by decide, Tryz.func150.trans (congrArg some (by kernel_rfl))⟩
  f76 := ⟨Tryz.f152.name, by decide, Tryz.func152.trans (congrArg some (by kernel_rfl))⟩
  f77 := ⟨Tryz.f153.name, by decide, Tryz.func153.trans (congrArg some (by kernel_rfl))⟩
  f78 := Tryz.func154.trans (congrArg some (by kernel_rfl))
  f79 := Tryz.func155.trans (congrArg some (by kernel_rfl))
  f88 := ⟨Tryz.f164.name, by decide, Tryz.func164.trans (congrArg some (by kernel_rfl))⟩
  f89 := Tryz.func165.trans (congrArg some (by kernel_rfl))
  f90 := Tryz.func166.trans (congrArg some (by kernel_rfl))
  f91 := ⟨Tryz.f167.name, by decide, Tryz.func167.trans (congrArg some (by kernel_rfl))⟩
  f92 := ⟨Tryz.f168.name, by decide, Tryz.func168.trans (congrArg some (by kernel_rfl))⟩
  f96 := ⟨Tryz.f177.name, by decide, Tryz.func177.trans (congrArg some (by kernel_rfl))⟩
  t0 := Tryz.underlying0
  a0 := Tryz.isAgg0
  z0 := Tryz.sizeOf0
  v0 := Tryz.zeroValue0
  t3 := Tryz.underlying3
  a3 := Tryz.isAgg3
  z3 := Tryz.sizeOf3
  v3 := Tryz.zeroValue3
  t4 := Tryz.underlying4
  a4 := Tryz.isAgg4
  z4 := Tryz.sizeOf4
  v4 := Tryz.zeroValue4
  t5 := Tryz.underlying5
  a5 := Tryz.isAgg5
  z5 := Tryz.sizeOf5
  v5 := Tryz.zeroValue5
  t9 := Tryz.underlying9
  a9 := Tryz.isAgg9
  z9 := Tryz.sizeOf9
  v9 := Tryz.zeroValue9
  t22 := Tryz.underlying31
  a22 := Tryz.isAgg31
  z22 := Tryz.sizeOf31
  v22 := Tryz.zeroValue31
  t23 := Tryz.underlying2
  a23 := Tryz.isAgg2
  z23 := Tryz.sizeOf2
  v23 := Tryz.zeroValue2
  t44 := Tryz.underlying69
  a44 := Tryz.isAgg69
  z44 := Tryz.sizeOf69
  v44 := Tryz.zeroValue69
  t51 := Tryz.underlying97
  a51 := Tryz.isAgg97
  z51 := Tryz.sizeOf97
  v51 := Tryz.zeroValue97
  t60 := Tryz.underlying148
  a60 := Tryz.isAgg148
  z60 := Tryz.sizeOf148
  v60 := Tryz.zeroValue148
  t61 := Tryz.underlying149
  a61 := Tryz.isAgg149
  z61 := Tryz.sizeOf149
  v61 := Tryz.zeroValue149
  t67 := Tryz.underlying156
  a67 := Tryz.isAgg156
  z67 := Tryz.sizeOf156
  v67 := Tryz.zeroValue156
  t69 := Tryz.underlying158
  a69 := Tryz.isAgg158
  z69 := Tryz.sizeOf158
  v69 := Tryz.zeroValue158
  t75 := Tryz.underlying168
  a75 := Tryz.isAgg168
  z75 := Tryz.sizeOf168
  v75 := Tryz.zeroValue168
  t79 := Tryz.underlying172
  a79 := Tryz.isAgg172
  z79 := Tryz.sizeOf172
  v79 := Tryz.zeroValue172
  t83 := Tryz.underlying181
  a83 := Tryz.isAgg181
  z83 := Tryz.sizeOf181
  v83 := Tryz.zeroValue181
  t84 := Tryz.underlying182
  a84 := Tryz.isAgg182
  z84 := Tryz.sizeOf182
  v84 := Tryz.zeroValue182 }
def Tryz.layCompact_ren : Go.Shelf.Ren := ⟨fun | 43 => 104 | n => n, fun | 22 => 31 | 23 => 2 | 3 => 3 | 4 => 4 | 0 => 0 | n => n, fun | n => n⟩
theorem Tryz.layCompact : Go.Proofs.SlLaysN.n43 Tryz.prog Tryz.layCompact_ren := {
  mixed := by kernel_rfl
  f43 := ⟨Tryz.f104.name, by decide, Tryz.func104.trans (congrArg some (by kernel_rfl))⟩
  t0 := Tryz.underlying0
  a0 := Tryz.isAgg0
  z0 := Tryz.sizeOf0
  v0 := Tryz.zeroValue0
  t3 := Tryz.underlying3
  a3 := Tryz.isAgg3
  z3 := Tryz.sizeOf3
  v3 := Tryz.zeroValue3
  t4 := Tryz.underlying4
  a4 := Tryz.isAgg4
  z4 := Tryz.sizeOf4
  v4 := Tryz.zeroValue4
  t22 := Tryz.underlying31
  a22 := Tryz.isAgg31
  z22 := Tryz.sizeOf31
  v22 := Tryz.zeroValue31
  t23 := Tryz.underlying2
  a23 := Tryz.isAgg2
  z23 := Tryz.sizeOf2
  v23 := Tryz.zeroValue2
  i23 := by kernel_rfl }
end Go.Proofs


set_option linter.unusedVariables false
set_option linter.unusedSimpArgs false
set_option linter.unnecessarySimpa false
namespace Go.Vc
theorem setCells_row {P : Program} {w : World} {b o : Nat} {cs : Array Value} {e : El} {vs : List Value} (hb : w.heap[b]? = some (celO cs e)) (h1 : ∀ u, u ∈ vs → u.oneCell' = true) (hfit : o + vs.length ≤ cs.size) :
    w.setCells b o vs = w.setRow b (cs.toList.take o ++ vs ++ cs.toList.drop (o + vs.length)).toArray := by
  have e1 := storeCells_cel P (e := e) (o := o) vs 0 cs w hb (by simpa using hfit) h1
  have e2 := run_storeCells_cells (P := P) b o vs 0 w (fun j hj => by
    have hlt : o + 0 + j < cs.size := by omega
    simp [World.cell?, hb]; omega) (fun j hj => by
      have hlt : o + j < cs.size := by omega
      have := celO_free hb hlt
      simpa using this) h1
  simp only [Nat.add_zero] at e1 e2
  rw [e2] at e1
  injection e1
theorem own_one {w : World} {S : Nat → Prop} {x : AV} {l : List Value} {o : Nat} {sh : Sh} {fs : List Nat} (h : Own w S x (elemV l o sh) fs) (hf : fits sh x) (hl : o + sh.sz ≤ l.length) (c : Nat) (hc : c < sh.sz) : (l.getD (o + c) Go.undef).oneCell' = true := by
  cases sh with
  | mk sz ag =>
  simp only at hc hl
  have one : leaf x → ag = false ∧ sz = 1 → (l.getD (o + c) Go.undef).oneCell' = true := by
    rintro hlf ⟨rfl, rfl⟩
    have := h.leaf_oneCell hlf
    rw [elemV_cell] at this
    rw [show o + c = o by omega]; exact this
  cases x with
  | agg zs =>
    obtain ⟨rfl, hzl⟩ := hf
    obtain ⟨cs, fss, hcs, _, h1, h2, _, h3⟩ := own_agg h
    rw [elemV_agg] at hcs
    cases hcs
    have h4 := (h3 c (by rw [hzl]; exact hc)).leaf_oneCell (h2 _ (by rw [hzl]; exact hc))
    rw [show (((l.drop o).take sz).toArray.toList) = (l.drop o).take sz from rfl, getD_drop_take _ _ _ _ hc] at h4
    exact h4
  | undef => exact hf.elim
  | tup xs => exact hf.elim
  | _ => exact one trivial hf
section
variable {P : Program} {m : Mem}
end
end Go.Vc


set_option linter.unusedVariables false
set_option linter.unusedSimpArgs false
set_option linter.unnecessarySimpa false
namespace Go.Vc
section
variable {P : Program} {B : Base} {N : Nat} {φ : Nat → LS} {fp : Nat → List Nat} {S : Nat → Prop} {ts : Env} {m : Mem} {a : Act} {w : World}
theorem Later.seqV {x y : Code} {Q : Post} {q : Pack (Code.seq x y, Q)} (hok : codeOk N x = true) (h : Go.Vc.vc P N x ts m (thn Q fun ts' m' => Later P N y ts' m' Q ⟨⟩)) : Later P N (.seq x y) ts m Q q := ⟨fun B φ fp S ac w hRS => by
  refine wp_seq (wp_mono (vc_sound x ts m _ hok h B φ fp S ac w hRS) fun e a' w' hq => ?_)
  obtain ⟨φ', fp', S', ts', m', h1, h2⟩ := hq
  cases e with
  | normal => exact h2.ok B φ' fp' S' a' w' h1
  | _ => exact ⟨φ', fp', S', ts', m', h1, h2⟩⟩
theorem Later.seqL {x y : Code} {Q : Post} {q : Pack (Code.seq x y, Q)} (h : Later P N x ts m (thn Q fun ts' m' => Later P N y ts' m' Q ⟨⟩) ⟨⟩) : Later P N (.seq x y) ts m Q q := ⟨fun B φ fp S ac w hRS => by
  refine wp_seq (wp_mono (h.ok B φ fp S ac w hRS) fun e a' w' hq => ?_)
  obtain ⟨φ', fp', S', ts', m', h1, h2⟩ := hq
  cases e with
  | normal => exact h2.ok B φ' fp' S' a' w' h1
  | _ => exact ⟨φ', fp', S', ts', m', h1, h2⟩⟩
theorem Later.condL {c : Operand} {x y : Code} {Q : Post} {q : Pack (Code.cond c x y, Q)} (b : Bool) (hv : Vc.ev ts c = .val (.bool b)) (ht : b = true → Later P N x ts m Q ⟨⟩) (hf : b = false → Later P N y ts m Q ⟨⟩) : Later P N (.cond c x y) ts m Q q := ⟨fun B φ fp S ac w hRS => by
  have hc := hRS.ev c
  rw [hv] at hc
  obtain ⟨hb, _⟩ := rv_val hc
  exact wp_cond_split hb.symm (fun h => (ht h).ok B φ fp S ac w hRS) (fun h => (hf h).ok B φ fp S ac w hRS)⟩
theorem Later.blockL {id : Nat} {x : Code} {Q : Post} {q : Pack (Code.block id x, Q)} (h : Later P N x ts m (blk Q id) ⟨⟩) : Later P N (.block id x) ts m Q q := ⟨fun B φ fp S ac w hRS => by
  refine wp_block (wp_mono (h.ok B φ fp S ac w hRS) fun e a' w' hq => ?_)
  obtain ⟨φ', fp', S', ts', m', h1, h2⟩ := hq
  cases e with
  | exit j =>
    simp only [blk] at h2
    simp only [Exit.inBlock]
    split
    · rename_i hj; rw [if_pos hj] at h2; exact ⟨φ', fp', S', ts', m', h1, h2⟩
    · rename_i hj; rw [if_neg hj] at h2; exact ⟨φ', fp', S', ts', m', h1, h2⟩
  | _ => exact ⟨φ', fp', S', ts', m', h1, h2⟩⟩

def hkN (P : Program) (N : Nat) (n : St) : St := fun ts m => ∀ (B : Base) (φ : Nat → LS) (fp : Nat → List Nat) (S : Nat → Prop) (a : Act) (w : World), RS B N φ fp S ts m a w → ∃ φ2 fp2 S2 ts2 m2, RS B N φ2 fp2 S2 ts2 m2 a w ∧ n ts2 m2
@[congr] theorem hkN_congr {P : Program} {N : Nat} {n : St} {ts ts' : Env} {m m' : Mem} (h : ts = ts') (h2 : m = m') : hkN P N n ts m = hkN P N n ts' m' := by rw [h, h2]
theorem hkN.known {n : St} (t l v k : Nat) (sh : Sh) (ys : List AV) (ht : look ts t = .ref l v 0 k) (htN : t < N) (hlk : lookB m l = some (.row v sh true ys)) (hn : k = ys.length) (h0 : 0 < k) (hsz : 0 < sh.sz)
    (h : ∀ u, n ((t, .val u) :: ts) ((l, .sub v sh ys u) :: m)) : hkN P N n ts m := fun _ _ _ _ _ _ hRS => have ⟨_, _, u, hR⟩ := hRS.known ht htN hlk hn h0 hsz; ⟨_, _, _, _, _, hR, h u⟩
theorem Fn.shared {f : FuncId} {args : List AV} {post : AV → Prop} (h : Fn P f args true post) : Fn P f args false post :=
  ⟨h.1, fun w S vs h1 hk h2 h3 => (h.2 w S vs h1 hk h2 h3).mono fun _ _ ⟨r, v, g1, g2, g3, g4⟩ => ⟨r, v, g1, g2, g3, by
    simp only [FnRes, if_true] at g4
    obtain ⟨fs, hO, _, hge⟩ := g4
    simp only [FnRes, uq0, if_false]
    exact hO.rd_of (fun _ h => h.elim) fun b hb => .inr ⟨hge b hb, hO.lt b hb⟩⟩⟩
theorem sCallT_clo3 {f g : FuncId} {d : Nat} {x y tx ty : AV} {trs : List AV} {k : AV → Mem → Prop} {r : AV} {q : Pack k} (hf : Fn P f [tx, ty, .clo g []] true (· = r)) (hx : sTree m x (· = tx)) (hy : sTree m y (· = ty)) (hk : sMat (1000 * (d + 1)) r m k) :
    sCallT P f d [x, y, .clo g []] trs m k q := by
  refine .inl fun B N φ fp S ts a w vs hRS hsz hv hl => ⟨hf.1, ?_⟩
  have hS : ∀ b, S b → Now w b := fun b hb => (hRS.sB b hb).1
  have r0 : Rd w (Now w) tx (vs.toList.getD 0 Go.undef) := by
    obtain ⟨_, rfl, h⟩ := tree_out hRS (hv 0 (by simp)) hx
    exact h
  have r1 : Rd w (Now w) ty (vs.toList.getD 1 Go.undef) := by
    obtain ⟨_, rfl, h⟩ := tree_out hRS (hv 1 (by simp)) hy
    exact h
  have r2 : Rd w (Now w) (.clo g []) (vs.toList.getD 2 Go.undef) := (rd_of_rv (hv 2 (by simp)) rfl).mono (fun _ _ => rfl) hS
  refine (hf.2 w (Now w) vs (fun b hb => hb) (hRS.kon.mono (fun _ _ => rfl) fun b hb => (hRS.sB b hb).1) hsz fun i hi => ?_).mono ?_
  · match i, hi with
    | 0, _ => exact r0
    | 1, _ => exact r1
    | 2, _ => exact r2
  · rintro e w' ⟨r', v, rfl, rfl, hg, hres⟩
    simp only [FnRes, if_true] at hres
    obtain ⟨fs, hown, hnd, hfr⟩ := hres
    have hR2 := hRS.grown hg
    obtain ⟨φ', fp', y, m', g1, g2, g3, g4⟩ := mat_out hR2 hown hnd (fun b hb => ⟨Nat.le_trans hRS.size (hfr b hb), fun hs => by have := (hRS.sB b hs).1; have := hfr b hb; omega, fun l hl => by have := (hRS.fpB l b hl).1; have := hfr b hb; omega⟩) _ hk
    exact ⟨v, rfl, φ', fp', S, ts, m', y, g1.rs, g3, g4, rfl, g2⟩

structure InsOut (w w' : World) (b' c' n i : Nat) (old : Nat → Value) (x : Value) : Prop where
  lt : b' < w'.heap.size
  room : n + 1 ≤ c'
  max : c' ≤ maxLen
  row : ∃ (cs' : Array Value) (e' : El), w'.heap[b']? = some (celO cs' e') ∧ cs'.size = c' ∧ ∀ p, p < n + 1 → cs'.toList.getD p Go.undef = if p < i then old p else if p = i then x else old (p - 1)
  oth : ∀ c : Nat, c ≠ b' → c < w.heap.size → w'.heap[c]? = w.heap[c]?
  grows : w.heap.size ≤ w'.heap.size
  out : SameOut w w'
structure InsRuns (P : Program) (f : FuncId) : Prop where
  enters : Enters P f
  at_ : ∀ (w : World) (b vb c vc i n : Nat) (cs cv : Array Value) (e : El) (ev : TypeId) (x : Value), w.heap[b]? = some (celO cs e) → cs.size = c → n ≤ c → i ≤ n → n + 1 ≤ 1073741824 → c ≤ maxLen → vb ≠ b → w.heap[vb]? = some (.cells cv ev (0, 0)) → cv[0]? = some x → x.oneCell' = true →
    (∀ v, v ∈ cs.toList.take n → v.oneCell' = true) → 0 < n →
    Calls P f #[.slice (some ⟨b, 0, none⟩) n c, .int .i64 i, .slice (some ⟨vb, 0, none⟩) 1 vc] w fun e' w' => ∃ b' c', e' = .returned (.slice (some ⟨b', 0, none⟩) (n + 1) c') ∧ InsOut w w' b' c' n i (fun p => cs.toList.getD p Go.undef) x ∧ (b' = b ∧ c' = c ∨ b' = w.heap.size)
  nil_ : ∀ (w : World) (ad : Option Addr) (vb c vc : Nat) (cv : Array Value) (ev : TypeId) (x : Value), w.heap[vb]? = some (.cells cv ev (0, 0)) → cv[0]? = some x → x.oneCell' = true → c = 0 →
    Calls P f #[.slice ad 0 c, .int .i64 0, .slice (some ⟨vb, 0, none⟩) 1 vc] w fun e' w' => ∃ b' c', e' = .returned (.slice (some ⟨b', 0, none⟩) 1 c') ∧ InsOut w w' b' c' 0 0 (fun _ => Go.undef) x ∧ b' = w.heap.size
  room_ : ∀ (w : World) (b vb c vc : Nat) (cs cv : Array Value) (e : El) (ev : TypeId) (x : Value), w.heap[b]? = some (celO cs e) → cs.size = c → 1 ≤ c → c ≤ maxLen → vb ≠ b → w.heap[vb]? = some (.cells cv ev (0, 0)) → cv[0]? = some x → x.oneCell' = true →
    Calls P f #[.slice (some ⟨b, 0, none⟩) 0 c, .int .i64 0, .slice (some ⟨vb, 0, none⟩) 1 vc] w fun e' w' => ∃ b' c', e' = .returned (.slice (some ⟨b', 0, none⟩) 1 c') ∧ InsOut w w' b' c' 0 0 (fun _ => Go.undef) x ∧ (b' = b ∧ c' = c)

theorem build_shape {t : TypeId} {tt ti : TI} (htt : tiOf P t = some tt) (hks : tt.kind = .slice) (ht : tiOf P tt.elem = some ti) {n : Nat} {parts : Array (Nat × Value)} {v : Value} {w' : World} (h : (Instr.buildSlice t n parts).run P w = .ok v w') :
    v = .slice (some ⟨w.heap.size, 0, none⟩) n n ∧ ∃ cs el, w'.heap[w.heap.size]? = some (.cells cs el (0, 0)) := by
  obtain ⟨inf, dd, z, hi, hd, hz, hag, hsz, hby, hzz, _⟩ := kind_of ht
  have hsl := kind_slice htt hks
  by_cases hb : n * inf.size > 2 ^ 24
  · simp [Instr.buildSlice, run_underlying hsl, sizeOf, typeInfo, hi, hb] at h
  · by_cases h0 : n * inf.size = 0
    · simp [Instr.buildSlice, run_underlying hsl, sizeOf, typeInfo, hi, h0, newRow] at h
      split at h
      · simp at h
        obtain ⟨rfl, rfl⟩ := h
        exact ⟨rfl, _, _, new_cel w _ _⟩
      · simp at h
    · simp [Instr.buildSlice, run_underlying hsl, sizeOf, typeInfo, hi, h0, hb, newRow, zeroValue, hz] at h
      split at h
      · simp at h
        obtain ⟨rfl, rfl⟩ := h
        exact ⟨rfl, _, _, new_cel w _ _⟩
      · simp at h

theorem ins_get {α : Type} (xs : List α) (x : α) (i p : Nat) (hi : i ≤ xs.length) : (xs.take i ++ x :: xs.drop i)[p]? = if p < i then xs[p]? else if p = i then some x else xs[p - 1]? := by
  have h1 : (xs.take i).length = i := by simp; omega
  rw [List.getElem?_append, h1, List.getElem?_take]
  split
  · rename_i h; rfl
  · rename_i h
    by_cases hp : p = i
    · subst hp; simp
    · rw [if_neg hp, show p - i = (p - i - 1) + 1 by omega, List.getElem?_cons_succ, List.getElem?_drop]
      congr 1; omega
theorem ins_flat {α : Type} (fss : List (List α)) (i : Nat) : (fss.take i ++ [] :: fss.drop i).flatten = fss.flatten := by
  rw [List.flatten_append, List.flatten_cons, uq3, ← List.flatten_append, List.take_append_drop]
theorem ins_core {f : FuncId} {l ver d v2 i : Nat} {x : AV} {deep deep2 deep' : Bool} {xs : List AV} {vb vc : Nat} {cv : Array Value} {ev : TypeId} {vr : Value} (hI : InsRuns P f) (h : RS B N φ fp S ts m a w)
    (hlk : lookB m l = some (.row ver ⟨1, false⟩ deep xs)) (hr : RV w S φ (.ref l ver 0 xs.length) vr) (hi : i ≤ xs.length) (hbig : xs.length + 1 ≤ 1073741824)
    (hlk2 : lookB m d = some (.row v2 ⟨1, false⟩ deep2 [x])) (hr2 : RV w S φ (.ref d v2 0 1) (.slice (some ⟨vb, 0, none⟩) 1 vc)) (hcv : w.heap[vb]? = some (.cells cv ev (0, 0))) (hne : d ≠ l)
    (hx : isFlat x = true ∧ deep' = deep ∨ deep' = false ∧ deep2 = false ∧ (deep = false ∨ xs = []))
    {k : AV → Env → Mem → Prop} (hk : k (.ref l (ver + 1) 0 (xs.length + 1)) ts ((l, .row (ver + 1) ⟨1, false⟩ deep' (xs.take i ++ x :: xs.drop i)) :: m)) :
    Calls P f #[vr, .int .i64 i, .slice (some ⟨vb, 0, none⟩) 1 vc] w fun e w' => ∃ v, e = .returned v ∧ Gives B N a k v w' := by
  have hver : ∀ v', known m l v' → v' < ver + 1 := by
    rintro v' ⟨k', h1, h2⟩
    rw [hlk] at h1; cases h1; exact Nat.lt_succ_of_le h2
  -- the literal
  obtain ⟨x0, hx0, h1x, hxr, hfx, hvbne⟩ : ∃ x0, cv[0]? = some x0 ∧ x0.oneCell' = true ∧ Rd w (if deep' then fun _ => False else S) x x0 ∧ fits ⟨1, false⟩ x ∧ (∀ b, b ∈ fp l → vb ≠ b) := by
    rcases h.mSome d _ hlk2 with ⟨_, hxs, _⟩ | ⟨b2, cap2, hφ2, hbm2, hdp2, hown2⟩
    · cases hxs
    · obtain ⟨ad, cap', e1, hn, hcp⟩ := (rv_ref hr2).1 b2 _ hφ2
      simp only [Value.slice.injEq] at e1
      obtain ⟨rfl, _, rfl⟩ := e1
      rcases hcp with rfl | ⟨e1, _⟩
      · omega
      · simp only [Option.some.injEq, Addr.mk.injEq] at e1
        obtain ⟨rfl, _⟩ := e1
        obtain ⟨cs, e, fss, hgf, hheap, hcs, hcap, hmx, hff, hfl, hvv⟩ := row_inv hown2 hbm2
        rw [hheap] at hcv
        simp only [Option.some.injEq, Obj.cells.injEq] at hcv
        obtain ⟨rfl, -, -⟩ := hcv
        have hv0 := hvv 0 (by simp)
        have hf0 := hff 0 (by simp)
        simp only [List.getElem_cons_zero, Nat.zero_mul] at hv0 hf0
        have hcl : 0 < cs.size := by rw [hcs, Nat.mul_one]; exact hcap
        have h1 := own_one hv0 hf0 (by rw [Array.length_toList]; exact hcl) 0 (by simp)
        rw [elemV_cell] at hv0
        simp only [Nat.add_zero] at h1
        have e0 : cs[0]? = some (cs.toList.getD 0 Go.undef) := by
          rw [List.getD_eq_getElem?_getD, Array.getElem?_toList, Array.getElem?_eq_getElem hcl]; rfl
        refine ⟨_, e0, h1, ?_, hf0, fun b hb e => ?_⟩
        · rcases hx with ⟨hfx, _⟩ | ⟨rfl, rfl, _⟩
          · exact (flat_rd hv0 hfx).1
          · have hd := hdp2 rfl
            rw [hgf] at hd
            have hf : fss.flatten = [] := by simpa using hd
            have hf1 : fss.getD 0 [] = [] := by
              cases fss with
              | nil => rfl
              | cons y r =>
                rw [List.flatten_cons, List.append_eq_nil_iff] at hf
                simpa using hf.1
            rw [hf1] at hv0
            exact hv0.rd_of (fun c hc => hc) fun c hc => by cases hc
        · subst e
          exact hne (h.dis d l _ hbm2 hb)
  have fin : ∀ (w' : World) (b' c' : Nat) (fss : List (List Nat)) (old : Nat → Value), InsOut w w' b' c' xs.length i old x0 → (b' ∈ fp l ∨ b' = w.heap.size) → fss.length = xs.length → (∀ b, b ∈ fss.flatten → b ∈ fp l ∧ b ≠ b') → fss.flatten.Nodup →
      (deep' = false → fss.flatten = []) → (∀ p (hp : p < xs.length), fits ⟨1, false⟩ xs[p]) → (∀ p (hp : p < xs.length), Own w (if deep' then fun _ => False else S) xs[p] (old p) (fss.getD p [])) → Szs w w' →
      Gives B N a k (.slice (some ⟨b', 0, none⟩) (xs.length + 1) c') w' := by
    intro w' b' c' fss old hO hb' hfl hin hnd hdp hff hown hszs
    obtain ⟨hlt, hroom, hmax, ⟨cs', e', hheap, hsz, hget⟩, hoth, hgr, hout⟩ := hO
    have hSb : ∀ c, S c → c ≠ b' := by
      rintro c hc rfl
      rcases hb' with hb | hb
      · exact h.notS l _ hb hc
      · have := (h.sB _ hc).1; omega
    have hkeep : ∀ c, (if deep' then fun _ => False else S) c → w'.heap[c]? = w.heap[c]? := by
      intro c hc
      cases deep' with
      | true => exact hc.elim
      | false => exact hoth c (hSb c hc) (h.sB c hc).1
    have hlen : (xs.take i ++ x :: xs.drop i).length = xs.length + 1 := by simp; omega
    have hfl' : (fss.take i ++ [] :: fss.drop i).length = xs.length + 1 := by simp; omega
    refine h.rowNext (b := b') (cap := c') (n := xs.length + 1) (nv := ver + 1) (sh := ⟨1, false⟩) (deep := deep') (xs := xs.take i ++ x :: xs.drop i) (fs := b' :: (fss.take i ++ [] :: fss.drop i).flatten) hgr hout hszs (fun c hc hcl => hoth c hc hcl)
      (fun l b sh ver cs e _ hb => hszs b cs e hb) (hb'.imp id fun e => ⟨e, hlt⟩) hver (fun c hc => ?_) (List.mem_cons_self ..) (fun hd => by rw [ins_flat, hdp hd]) (by
        rw [ins_flat]
        exact List.nodup_cons.2 ⟨fun hc => (hin _ hc).2 rfl, hnd⟩) ?_ ⟨_, c', rfl, hroom, .inr ⟨rfl, cs', e', hheap, by simpa using hsz⟩⟩ hk
    · rcases List.mem_cons.1 hc with rfl | hc
      · exact .inl rfl
      · rw [ins_flat] at hc
        exact .inr (hin c hc).1
    · refine .arr ⟨1, false⟩ (xs.take i ++ x :: xs.drop i) b' c' cs' e' (fss.take i ++ [] :: fss.drop i) hheap (by simpa using hsz) (by rw [hlen]; exact hroom) hmax (fun p hp => ?_) (by rw [hlen, hfl']) fun p hp => ?_
      · have g := ins_get xs x i p hi
        rw [List.getElem?_eq_getElem hp] at g
        rw [hlen] at hp
        split at g
        · rename_i h1
          rw [List.getElem?_eq_getElem (by omega)] at g
          rw [Option.some.inj g]; exact hff _ _
        · split at g
          · rw [Option.some.inj g]; exact hfx
          · rw [List.getElem?_eq_getElem (by omega)] at g
            rw [Option.some.inj g]; exact hff _ _
      · have g := ins_get xs x i p hi
        have gf := ins_get fss [] i p (by omega)
        rw [List.getElem?_eq_getElem hp] at g
        rw [hlen] at hp
        have hc := hget p hp
        rw [elemV_cell, Nat.mul_one, hc]
        rw [List.getD_eq_getElem?_getD, gf]
        split at g
        · rename_i h1
          rw [List.getElem?_eq_getElem (by omega)] at g
          rw [Option.some.inj g, if_pos h1, if_pos h1, ← List.getD_eq_getElem?_getD]
          exact (hown p (by omega)).mono hkeep (fun _ h => h) fun c hc2 => by
            have := hin c (mem_flatten_getD (by omega) hc2)
            exact hoth c this.2 (h.fpB l c this.1).1
        · rename_i h1
          split at g
          · rename_i h2
            rw [Option.some.inj g, if_neg h1, if_pos h2, if_neg h1, if_pos h2]
            exact .rd _ _ (hxr.mono hkeep (fun _ h => h))
          · rename_i h2
            rw [List.getElem?_eq_getElem (by omega)] at g
            rw [Option.some.inj g, if_neg h1, if_neg h2, if_neg h1, if_neg h2, ← List.getD_eq_getElem?_getD]
            exact (hown (p - 1) (by omega)).mono hkeep (fun _ h => h) fun c hc2 => by
              have := hin c (mem_flatten_getD (by omega) hc2)
              exact hoth c this.2 (h.fpB l c this.1).1
  have szNew : ∀ (w' : World) (b' : Nat), b' = w.heap.size → (∀ c : Nat, c ≠ b' → c < w.heap.size → w'.heap[c]? = w.heap[c]?) → Szs w w' := by
    rintro w' b' rfl ho
    exact Szs.of_same fun c hc => ho c (by omega) hc
  have hz : ∀ (ad : Option Addr) (c : Nat), xs = [] → vr = .slice ad 0 c → c = 0 → Calls P f #[vr, .int .i64 i, .slice (some ⟨vb, 0, none⟩) 1 vc] w fun e w' => ∃ v, e = .returned v ∧ Gives B N a k v w' := by
    rintro ad c rfl rfl hc
    have hi0 : i = 0 := by simpa using hi
    subst hi0
    refine (hI.nil_ w ad vb c vc cv ev x0 hcv hx0 h1x hc).mono ?_
    rintro e' w' ⟨b', c', rfl, hO, hb'⟩
    refine ⟨_, rfl, fin w' b' c' [] (fun _ => Go.undef) hO (.inr hb') rfl (fun b hb => by cases hb) List.nodup_nil (fun _ => rfl) (fun p hp => absurd hp (Nat.not_lt_zero _)) (fun p hp => absurd hp (Nat.not_lt_zero _)) (szNew w' b' hb' hO.oth)⟩
  rcases h.mSome l _ hlk with ⟨hφ, hxs, _⟩ | ⟨b, cap0, hφ, hbm, hdp, hown⟩
  · obtain ⟨h0, ad, e⟩ := (rv_ref hr).2 hφ
    exact hz ad 0 hxs e rfl
  · obtain ⟨ad, cap, e, hn, hcp⟩ := (rv_ref hr).1 b _ hφ
    by_cases hc0 : cap = 0
    · have hx0 : xs = [] := List.eq_nil_of_length_eq_zero (by omega)
      exact hz ad cap hx0 (by rw [e, hx0]; rfl) hc0
    · obtain ⟨rfl, cs1, e1, g1, g2⟩ := hcp.resolve_left hc0
      obtain ⟨cs, el, fss, hgf, hheap, hcs, hcap, hmx, hff, hfl, hvv⟩ := row_inv hown hbm
      obtain rfl := celO_inj (hheap.symm.trans g1)
      rw [Nat.zero_add, Nat.mul_one] at g2
      rw [Nat.mul_one] at hcs
      have hcc : cap0 = cap := by omega
      subst hcc
      subst e
      rw [show (0 : Nat) * 1 = 0 from rfl]
      have hnod := h.nod l
      rw [hgf] at hnod
      have hnod' := List.nodup_cons.1 hnod
      have hfn : deep' = false → fss.flatten = [] := by
        intro hd'
        have hd0 : deep = false → fss.flatten = [] := fun hd => by have := hdp hd; rw [hgf] at this; simpa using this
        rcases hx with ⟨_, rfl⟩ | ⟨_, _, hd | hd⟩
        · exact hd0 hd'
        · exact hd0 hd
        · have : fss = [] := List.eq_nil_of_length_eq_zero (by rw [hfl, hd]; rfl)
          rw [this]; rfl
      have hown' : ∀ p (hp : p < xs.length), Own w (if deep' then fun _ => False else S) xs[p] (cs.toList.getD p Go.undef) (fss.getD p []) := by
        intro p hp
        have h1 := hvv p hp
        rw [elemV_cell, Nat.mul_one] at h1
        rcases hx with ⟨_, rfl⟩ | ⟨rfl, _, rfl | rfl⟩
        · exact h1
        · exact h1
        · exact absurd hp (Nat.not_lt_zero _)
      have hin : ∀ c, c ∈ fss.flatten → c ∈ fp l ∧ c ≠ b := fun c hc => ⟨by rw [hgf]; exact List.mem_cons_of_mem _ hc, fun e => hnod'.1 (e ▸ hc)⟩
      have cell1 : ∀ v, v ∈ cs.toList.take xs.length → v.oneCell' = true := by
        intro v hv
        obtain ⟨t, ht, rfl⟩ := List.getElem_of_mem hv
        have ht' : t < xs.length := by simp at ht; omega
        have := own_one (hvv t ht') (hff t ht') (by simp; omega) 0 (by simp)
        simp only [Nat.mul_one, Nat.add_zero] at this
        rw [List.getElem_take]
        rw [List.getD_eq_getElem?_getD, List.getElem?_eq_getElem (by simp at ht ⊢; omega)] at this
        exact this
      have szOld : ∀ (w' : World), InsOut w w' b cap0 xs.length i (fun p => cs.toList.getD p Go.undef) x0 → Szs w w' := by
        rintro w' ⟨_, _, _, ⟨cs', e', hh, hsz, _⟩, ho, _, _⟩ c cs3 e3 hc3
        by_cases ec : c = b
        · subst ec
          obtain rfl := celO_inj (hheap.symm.trans hc3)
          exact ⟨cs', e', hh, by rw [hsz, hcs]⟩
        · have hcl : c < w.heap.size := (Array.getElem?_eq_some_iff.1 hc3).1
          exact ⟨cs3, e3, (ho c ec hcl).trans hc3, rfl⟩
      by_cases hn0 : xs.length = 0
      · have hxs : xs = [] := List.eq_nil_of_length_eq_zero hn0
        subst hxs
        have hi0 : i = 0 := by simpa using hi
        subst hi0
        refine (hI.room_ w b vb cap0 vc cs cv el ev x0 hheap hcs (by omega) hmx (hvbne b hbm) hcv hx0 h1x).mono ?_
        rintro e' w' ⟨b', c', rfl, hO, rfl, rfl⟩
        have hO' : InsOut w w' b' c' ([] : List AV).length 0 (fun p => cs.toList.getD p Go.undef) x0 := by
          obtain ⟨q1, q2, q3, ⟨cs', e', q4, q5, q6⟩, q7, q8, q9⟩ := hO
          refine ⟨q1, q2, q3, ⟨cs', e', q4, q5, fun p hp => ?_⟩, q7, q8, q9⟩
          have hp0 : p = 0 := by simp at hp; omega
          subst hp0
          have := q6 0 (by simp)
          simpa using this
        exact ⟨_, rfl, fin w' b' c' fss _ hO' (.inl hbm) hfl hin hnod'.2 hfn hff hown' (szOld w' hO')⟩
      · refine (hI.at_ w b vb cap0 vc i xs.length cs cv el ev x0 hheap hcs hn hi hbig hmx (hvbne b hbm) hcv hx0 h1x cell1 (by omega)).mono ?_
        rintro e' w' ⟨b', c', rfl, hO, hb'⟩
        rcases hb' with ⟨rfl, rfl⟩ | hb'
        · exact ⟨_, rfl, fin w' b' c' fss _ hO (.inl hbm) hfl hin hnod'.2 hfn hff hown' (szOld w' hO)⟩
        · refine ⟨_, rfl, fin w' b' c' fss _ hO (.inr hb') hfl (fun c hc => ⟨(hin c hc).1, fun e => ?_⟩) hnod'.2 hfn hff hown' (szNew w' b' hb' hO.oth)⟩
          have := (h.fpB l c (hin c hc).1).1
          omega

theorem range_from {n j : Nat} (h : j < n) : (List.range (n - j)).map (· + j) = j :: (List.range (n - (j + 1))).map (· + (j + 1)) := by
  rw [show n - j = (n - (j + 1)) + 1 by omega, List.range_succ_eq_map]
  simp [List.map_map, Function.comp_def]; intro q hq; omega
theorem insPre_sound {ops : List Oper} {n : Nat} (hok : opsOk N ops = true) (hpre : ((ops.take n).all fun o => o.guard.isNone) = true) (hn : n ≤ ops.length) {Q : Exit → Act → World → Prop} {K : St}
    (hQ : ∀ φ fp S ts m a w, RS B N φ fp S ts m a w → K ts m → wpOps P ops.toArray Q ((List.range (ops.length - n)).map (· + n)) a w) :
    ∀ (l : List Oper) (i : Nat), (ops.take n).drop i = l → i ≤ n → ∀ (φ : Nat → LS) (fp : Nat → List Nat) (S : Nat → Prop) (ts : Env) (m : Mem) (a : Act) (w : World), RS B N φ fp S ts m a w → sL P ops l ts m K →
      wpOps P ops.toArray Q ((List.range (ops.length - i)).map (· + i)) a w
  | [], i, hl, hin, φ, fp, S, ts, m, a, w, h, hk => by
    have : i = n := by
      have := congrArg List.length hl; simp at this; omega
    subst this
    exact hQ φ fp S ts m a w h hk
  | o :: r, i, hl, hin, φ, fp, S, ts, m, a, w, h, hk => by
    have hi' : i < n := by
      have := congrArg List.length hl; simp at this; omega
    have hi : i < ops.length := by omega
    have hoi0 : (ops.take n)[i]? = some o := by
      have := congrArg (·[0]?) hl
      simpa using this
    have hoi : ops[i]? = some o := by
      rw [List.getElem?_take, if_pos hi'] at hoi0
      exact hoi0
    have hg : o.guard = none := by
      have := List.all_eq_true.1 hpre o (List.mem_of_getElem? hoi0)
      simpa using this
    have hr : (ops.take n).drop (i + 1) = r := by
      have := congrArg List.tail hl
      simpa using this
    rw [range_from hi]
    have hoo : ops.toArray[i]? = some o := by simpa using hoi
    simp only [wpOps, hoo]
    have hdo : ∀ d, o.dst = some d → d < N := by
      intro d hd
      have := List.all_eq_true.1 hok o (List.mem_of_getElem? hoi)
      rw [hd] at this; simpa using this
    simp only [sL, hg] at hk
    simp only [Region.wanted, hg, if_true]
    refine .inl (op_sound h hk fun v w' hgv => ?_)
    obtain ⟨φ', fp', S', ts', m', h1, h2⟩ := step_done (o := o) (K := fun ts m => sL P ops r ts m K) hdo hgv (fun x m' h => h)
    exact insPre_sound hok hpre hn hQ r (i + 1) hr (by omega) φ' fp' S' ts' m' _ w' h1 h2
def insC (P : Program) (N : Nat) (ops : List Oper) (j d : Nat) (Q : Post) (ts : Env) (x : AV) (m : Mem) : Prop :=
  ∀ (B : Base) (φ : Nat → LS) (fp : Nat → List Nat) (S : Nat → Prop) (a : Act) (w : World) (v : Value), RS B N φ fp S ts m a w → RV w S φ x v → (∀ l ver, (l, ver) ∈ labs x → known m l ver) →
    (∃ b cs el, v = .slice (some ⟨b, 0, none⟩) 1 1 ∧ w.heap[b]? = some (.cells cs el (0, 0))) → wpOps P ops.toArray (fun e a' w' => Done B N (Q e) a' w') ((List.range (ops.length - j)).map (· + j)) (a.put (some d) v) w
@[congr] theorem insC_congr {N : Nat} {ops : List Oper} {j d : Nat} {Q : Post} {ts ts' : Env} {x x' : AV} {m m' : Mem} (h : ts = ts') (h2 : x = x') (h3 : m = m') : insC P N ops j d Q ts x m = insC P N ops j d Q ts' x' m' := by rw [h, h2, h3]
theorem Later.ins (n : Nat) {i : Nat} {ops : List Oper} {Q : Post} {q : Pack (Code.region i ⟨ops⟩ false, Q)} {d : Nat} {t ty : TypeId} {parts : Array (Nat × Operand)} {p : String} {e : Array Edge} (hok : opsOk N ops = true) (hpre : ((ops.take n).all fun o => o.guard.isNone) = true)
    (hB : ops[n]? = some ⟨some d, .buildSlice t 1 parts, ty, p, e, none⟩) (h : sL P ops (ops.take n) ts m fun ts m => sOp P d (.buildSlice t 1 parts) ts m (insC P N ops (n + 1) d Q ts)) : Later P N (.region i ⟨ops⟩ false) ts m Q q := ⟨fun B φ fp S a w hRS => by
  have hn : n < ops.length := (List.getElem?_eq_some_iff.1 hB).1
  refine wp_region ?_
  have := insPre_sound (P := P) (B := B) (Q := fun e a' w' => Done B N (Q e) a' w') hok hpre (Nat.le_of_lt hn) (K := fun ts m => sOp P d (.buildSlice t 1 parts) ts m (insC P N ops (n + 1) d Q ts)) (fun φ fp S ts m a w h hk => ?_) (ops.take n) 0 (by simp) (Nat.zero_le _) φ fp S ts m a w hRS h
  · simpa using this
  · rw [range_from hn]
    have hoo : ops.toArray[n]? = some ⟨some d, .buildSlice t 1 parts, ty, p, e, none⟩ := by simpa using hB
    simp only [wpOps, hoo]
    simp only [Region.wanted, if_true]
    refine .inl ?_
    have hk : sTI (tiOf P t) fun tt => sSl tt.kind (sTI (tiOf P tt.elem) fun ti => sBuildSliceX ti d 1 (parts.toList.map fun p => (p.1, Vc.ev ts p.2)) m (insC P N ops (n + 1) d Q ts)) := hk
    obtain ⟨tt, htt, hk⟩ := sTI_out hk
    obtain ⟨hks, hk⟩ := sSl_out hk
    obtain ⟨ti, ht, hk⟩ := sTI_out hk
    obtain ⟨v, w', hr, hg⟩ := run_buildSliceX htt hks ht h (PR_map h parts.toList) _ 1 hk
    obtain ⟨rfl, cs, el, hcs⟩ := build_shape htt hks ht hr
    unfold Oper.wp
    have hex : execOp a.eval (⟨some d, .buildSlice t 1 parts, ty, p, e, none⟩ : Oper) = (do pure (.value (← Instr.buildSlice t 1 ((parts.toList.map fun p => (p.1, a.eval p.2)).toArray))) : Sem Next) := by simp only [execOp, parts_toArray]
    rw [hex]
    simp only [Sem.run_bind, hr, Result.andThen_ok, Sem.run_pure]
    obtain ⟨φ', fp', S', ts', m', x, h1, h2, h3, rfl, h4⟩ := hg
    exact h4 B φ' fp' S' a w' _ h1 h2 h3 ⟨_, cs, el, rfl, hcs⟩⟩
theorem Later.insK (n : Nat) {i : Nat} {ops : List Oper} {Q : Post} {q : Pack (Code.region i ⟨ops⟩ false, Q)} {d : Nat} {t ty : TypeId} {parts : Array (Nat × Operand)} {p : String} {e : Array Edge} (hok : opsOk N ops = true) (hpre : ((ops.take n).all fun o => o.guard.isNone) = true)
    (hB : ops[n]? = some ⟨some d, .buildSlice t 1 parts, ty, p, e, none⟩) (h : sL P ops (ops.take n) ts m (hkN P N fun ts m => sOp P d (.buildSlice t 1 parts) ts m (insC P N ops (n + 1) d Q ts))) : Later P N (.region i ⟨ops⟩ false) ts m Q q := ⟨fun B φ fp S a w hRS => by
  have hn : n < ops.length := (List.getElem?_eq_some_iff.1 hB).1
  refine wp_region ?_
  have := insPre_sound (P := P) (B := B) (Q := fun e a' w' => Done B N (Q e) a' w') hok hpre (Nat.le_of_lt hn) (K := hkN P N fun ts m => sOp P d (.buildSlice t 1 parts) ts m (insC P N ops (n + 1) d Q ts)) (fun φ0 fp0 S0 ts0 m0 a w h0 hk0 => ?_) (ops.take n) 0 (by simp) (Nat.zero_le _) φ fp S ts m a w hRS h
  · simpa using this
  · rw [range_from hn]
    have hoo : ops.toArray[n]? = some ⟨some d, .buildSlice t 1 parts, ty, p, e, none⟩ := by simpa using hB
    simp only [wpOps, hoo]
    simp only [Region.wanted, if_true]
    refine .inl ?_
    obtain ⟨φ, fp, S, ts, m, h, hk⟩ := hk0 B φ0 fp0 S0 a w h0
    have hk : sTI (tiOf P t) fun tt => sSl tt.kind (sTI (tiOf P tt.elem) fun ti => sBuildSliceX ti d 1 (parts.toList.map fun p => (p.1, Vc.ev ts p.2)) m (insC P N ops (n + 1) d Q ts)) := hk
    obtain ⟨tt, htt, hk⟩ := sTI_out hk
    obtain ⟨hks, hk⟩ := sSl_out hk
    obtain ⟨ti, ht, hk⟩ := sTI_out hk
    obtain ⟨v, w', hr, hg⟩ := run_buildSliceX htt hks ht h (PR_map h parts.toList) _ 1 hk
    obtain ⟨rfl, cs, el, hcs⟩ := build_shape htt hks ht hr
    unfold Oper.wp
    have hex : execOp a.eval (⟨some d, .buildSlice t 1 parts, ty, p, e, none⟩ : Oper) = (do pure (.value (← Instr.buildSlice t 1 ((parts.toList.map fun p => (p.1, a.eval p.2)).toArray))) : Sem Next) := by simp only [execOp, parts_toArray]
    rw [hex]
    simp only [Sem.run_bind, hr, Result.andThen_ok, Sem.run_pure]
    obtain ⟨φ', fp', S', ts', m', x, h1, h2, h3, rfl, h4⟩ := hg
    exact h4 B φ' fp' S' a w' _ h1 h2 h3 ⟨_, cs, el, rfl, hcs⟩⟩
theorem insC.go {ops : List Oper} {j d d2 : Nat} {Q : Post} {x y : AV} {f : FuncId} {c : Call} {ty : TypeId} {p : String} {e : Array Edge} {A1 A2 : Operand} {l ver v2 i : Nat} {deep deep2 : Bool} (deep' : Bool) {xs : List AV}
    (hok : (opsOk N ops && guardsOk N ops && decide (d < N)) = true) (hC : ops[j]? = some ⟨some d2, .call c, ty, p, e, none⟩) (hcal : c.callee = .value (.func f)) (hargs : c.args.toList = [A1, A2, .tmp d]) (hI : InsRuns P f)
    (h1 : Vc.ev ((d, x) :: ts) A1 = .ref l ver 0 xs.length) (h2 : Vc.ev ((d, x) :: ts) A2 = .val (.int .i64 i)) (hx : x = .ref d v2 0 1) (hlk : lookB m l = some (.row ver ⟨1, false⟩ deep xs)) (hlk2 : lookB m d = some (.row v2 ⟨1, false⟩ deep2 [y]))
    (hi : i ≤ xs.length) (hbig : xs.length + 1 ≤ 1073741824) (hne : d ≠ l) (hfl : isFlat y = true ∧ deep' = deep ∨ deep' = false ∧ deep2 = false ∧ (deep = false ∨ xs = []))
    (hk : sL P ops (ops.drop (j + 1)) ((d2, .ref l (ver + 1) 0 (xs.length + 1)) :: (d, x) :: ts) ((l, .row (ver + 1) ⟨1, false⟩ deep' (xs.take i ++ y :: xs.drop i)) :: m) (Q .normal)) : insC P N ops j d Q ts x m := by
  rintro B φ fp S a w v hR hxv hxl ⟨b, cs, el, rfl, hcs⟩
  simp only [Bool.and_eq_true, decide_eq_true_eq] at hok
  obtain ⟨⟨hok, hgs⟩, hdN⟩ := hok
  have hj : j < ops.length := (List.getElem?_eq_some_iff.1 hC).1
  have hR' := hR.put d x _ hdN hxv hxl
  rw [range_from hj]
  have hoo : ops.toArray[j]? = some ⟨some d2, .call c, ty, p, e, none⟩ := by simpa using hC
  simp only [wpOps, hoo]
  simp only [Region.wanted, if_true]
  refine .inl ?_
  have e1 := hR'.ev A1
  have e2 := hR'.ev A2
  rw [h1] at e1
  rw [h2] at e2
  obtain ⟨e2, _⟩ := rv_val e2
  have e3 := hR'.ev (.tmp d)
  have hd3 : (a.put (some d) (.slice (some ⟨b, 0, none⟩) 1 1)).eval (.tmp d) = .slice (some ⟨b, 0, none⟩) 1 1 := by
    have hsz : d < a.tmps.size := by rw [hR.tsz]; exact hdN
    simp [Act.eval, Act.put, hsz]
  have ha : c.args.map (a.put (some d) (.slice (some ⟨b, 0, none⟩) 1 1)).eval = #[(a.put (some d) (.slice (some ⟨b, 0, none⟩) 1 1)).eval A1, .int .i64 i, .slice (some ⟨b, 0, none⟩) 1 1] := by
    apply Array.ext'
    rw [Array.toList_map, hargs]
    simp only [List.map_cons, List.map_nil]
    rw [e2, hd3]
  obtain ⟨fn, cd, hf, hnm, hbd⟩ := hI.enters
  generalize hA : a.put (some d) (.slice (some ⟨b, 0, none⟩) 1 1) = A at *
  have hex : (execOp A.eval (⟨some d2, .call c, ty, p, e, none⟩ : Oper)).run P w = .ok (.enter f (c.args.map A.eval)) w := by
    have hnm' : ¬ fn.name = "runtime.NumGoroutine" := by simpa using hnm
    simp [execOp, resolve, hcal, Act.eval, Deferred.ofValue, invoke, callFunc, hf, hnm', hbd]
  unfold Oper.wp
  rw [hex, Oper.upon_enter, ha]
  have hxv2 : RV w S φ (.ref d v2 0 1) (.slice (some ⟨b, 0, none⟩) 1 1) := by rw [← hx]; exact hxv
  refine (ins_core (k := fun z ts' m' => ts' = (d, x) :: ts ∧ z = .ref l (ver + 1) 0 (xs.length + 1) ∧ m' = (l, .row (ver + 1) ⟨1, false⟩ deep' (xs.take i ++ y :: xs.drop i)) :: m) hI hR' hlk e1 hi hbig hlk2 hxv2 hcs hne hfl ⟨rfl, rfl, rfl⟩).mono ?_
  rintro e' w' ⟨v', rfl, hg⟩
  have hdo : ∀ d', (some d2 : Option Nat) = some d' → d' < N := by
    intro d' hd
    have := List.all_eq_true.1 hok _ (List.mem_of_getElem? hC)
    simp only at this hd
    cases hd
    simpa using this
  obtain ⟨φ', fp', S', ts', m', g1, g2⟩ := step_done (o := ⟨some d2, .call c, ty, p, e, none⟩) (K := fun ts m => sL P ops (ops.drop (j + 1)) ts m (Q .normal)) (ts := (d, x) :: ts) (k := fun z m' => z = .ref l (ver + 1) 0 (xs.length + 1) ∧ m' = (l, .row (ver + 1) ⟨1, false⟩ deep' (xs.take i ++ y :: xs.drop i)) :: m) hdo hg (fun z m' ⟨q1, q2⟩ => by
    rw [q1, q2]; exact hk)
  exact region_sound hok hgs (fun a w h => h) (ops.drop (j + 1)) (j + 1) rfl φ' fp' S' ts' m' _ w' g1 g2
end
end Go.Vc


set_option linter.unusedVariables false
set_option linter.unusedSimpArgs false
set_option linter.unnecessarySimpa false
namespace Go.Vc
abbrev eI (n : Int) : AV := .val (.int .i64 n)
abbrev eB (b : Bool) : AV := .val (.bool b)
abbrev eIs (xs : List Int) : AV := .arr ⟨1, false⟩ (xs.map eI)
theorem all_take {α : Type} (p : α → Bool) (xs : List α) (i : Nat) (h : i < xs.length) : (xs.take (i + 1)).all p = ((xs.take i).all p && p xs[i]) := by
  rw [List.take_succ_eq_append_getElem h, List.all_append]; simp
theorem all_no {α : Type} {p : α → Bool} {xs : List α} {i : Nat} (h : i < xs.length) (hp : p xs[i] = false) : xs.all p = false := by
  rw [List.all_eq_false]; exact ⟨xs[i], List.getElem_mem h, by simp [hp]⟩
def fill {α β : Type} (f : α → β) (z : β) (xs : List α) (i : Nat) : List β := (xs.take i).map f ++ List.replicate (xs.length - i) z
theorem fill_zero {α β : Type} (f : α → β) (z : β) (xs : List α) : fill f z xs 0 = List.replicate xs.length z := by simp [fill]
theorem fill_all {α β : Type} (f : α → β) (z : β) (xs : List α) : fill f z xs xs.length = xs.map f := by simp [fill]
theorem fill_len {α β : Type} (f : α → β) (z : β) (xs : List α) (i : Nat) (h : i ≤ xs.length) : (fill f z xs i).length = xs.length := by simp [fill]; omega
theorem fill_get {α β : Type} (f : α → β) (z : β) (xs : List α) (i : Nat) (h : i < xs.length) : (fill f z xs i)[i]? = some z := by
  have hl : ((xs.take i).map f).length = i := by simp; omega
  rw [fill, List.getElem?_append_right (by omega), hl, Nat.sub_self, List.getElem?_replicate, if_pos (by omega)]
theorem fill_set {α β : Type} (f : α → β) (z : β) (xs : List α) (i : Nat) (h : i < xs.length) : (fill f z xs i).set i (f xs[i]) = fill f z xs (i + 1) := by
  have hl : ((xs.take i).map f).length = i := by simp; omega
  rw [fill, fill, List.take_succ_eq_append_getElem h, List.map_append, List.set_append_right _ _ (by omega), hl, Nat.sub_self, show xs.length - i = (xs.length - (i + 1)) + 1 by omega, List.replicate_succ]
  simp
theorem take_map_len {α β : Type} (f : α → β) (xs : List α) : (xs.map f).take xs.length = xs.map f := by rw [← List.map_take, List.take_length]
attribute [go_sem] take_map_len
theorem lt_len {i n : Nat} (h : i < n) : decide ((i : Int) < (n : Int)) = true := decide_eq_true (by omega)
theorem nlt_len (n : Nat) : decide ((n : Int) < (n : Int)) = false := decide_eq_false (by omega)
theorem get_some {α : Type} {xs : List α} {i : Nat} (h : i < xs.length) : xs[i]? = some xs[i] := List.getElem?_eq_getElem h
def mk1 {β : Type} (f : Nat → β) (zs : List β) (i : Nat) : List β := (List.range i).map f ++ zs.drop i
theorem mk1_zero {β : Type} (f : Nat → β) (zs : List β) : mk1 f zs 0 = zs := by simp [mk1]
theorem mk1_all {β : Type} (f : Nat → β) (zs : List β) (n : Nat) (h : zs.length ≤ n) : mk1 f zs n = (List.range n).map f := by simp [mk1, List.drop_eq_nil_of_le h]
theorem mk1_len {β : Type} (f : Nat → β) (zs : List β) (i : Nat) (h : i ≤ zs.length) : (mk1 f zs i).length = zs.length := by simp [mk1]; omega
theorem mk1_get {β : Type} (f : Nat → β) (zs : List β) (i : Nat) (h : i < zs.length) : (mk1 f zs i)[i]? = some zs[i] := by
  rw [mk1, List.getElem?_append_right (by simp)]; simp [h]
theorem mk1_set {β : Type} (f : Nat → β) (zs : List β) (i : Nat) (h : i < zs.length) : (mk1 f zs i).set i (f i) = mk1 f zs (i + 1) := by
  rw [mk1, mk1, List.set_append_right _ _ (by simp), List.range_succ, List.map_append]
  simp only [List.length_map, List.length_range, Nat.sub_self, List.map_cons, List.map_nil, List.append_assoc]
  rw [List.drop_eq_getElem_cons h]; rfl
theorem mk1_set2 {β : Type} (f : Nat → β) (zs : List β) (i : Nat) (x : β) (h : i < zs.length) : ((mk1 f zs i).set i x)[i]? = some x := by
  rw [List.getElem?_set]; simp [mk1_len f zs i (by omega), h]
theorem isFlatL_map {α : Type} {f : α → AV} (xs : List α) (h : ∀ x, isFlat (f x) = true) : isFlatL (xs.map f) = true := by
  induction xs with
  | nil => rfl
  | cons x r ih => rw [List.map_cons, isFlatL_cons, h, ih]; rfl
theorem rep0 {α : Type} (z : α) : List.replicate 0 z = [] := rfl
theorem rep1 {α : Type} (z : α) : List.replicate 1 z = [z] := rfl
theorem rep2 {α : Type} (z : α) : List.replicate 2 z = [z, z] := rfl
theorem rep7 {α : Type} (z : α) : List.replicate 7 z = [z, z, z, z, z, z, z] := rfl
theorem rep9 {α : Type} (z : α) : List.replicate 9 z = [z, z, z, z, z, z, z, z, z] := rfl
attribute [go_sem] isFlatL_map List.take_take Nat.min_self List.map_take List.append_nil List.length_append List.length_take rep0 rep1 rep2 rep7 rep9
theorem ioL_eq : ioL = 1000000000 := rfl
attribute [go_sem] ne_eq not_false_eq_true ioL_eq decide_true decide_false Bool.not_true Bool.not_false bne_self_eq_false
attribute [go_sem] List.length_set
theorem eq_no {α : Type} [DecidableEq α] {xs ys : List α} {i : Nat} (hi : i < xs.length) (hy : i < ys.length) (h : xs[i] ≠ ys[i]) : decide (xs = ys) = false :=
  decide_eq_false fun e => h (by subst e; rfl)
theorem eq_yes {α : Type} {xs ys : List α} {i : Nat} (hi : i < xs.length) (hy : i < ys.length) (hI : xs.take i = ys.take i) (h : xs[i] = ys[i]) : xs.take (i + 1) = ys.take (i + 1) := by
  rw [List.take_succ_eq_append_getElem hi, List.take_succ_eq_append_getElem hy, hI, h]
end Go.Vc


set_option linter.unusedVariables false
set_option linter.unusedSimpArgs false
set_option linter.unnecessarySimpa false
namespace Go.Vc
open Go.Proofs

theorem ti2 : tiOf Tryz.prog 2 = some ⟨false, 1, 8, .val (.int .i64 0), [], 0, .int .i64⟩ := by kernel_rfl
theorem ti3 : tiOf Tryz.prog 3 = some ⟨false, 1, 8, .val (.int .i64 0), [], 0, .int .i64⟩ := by kernel_rfl
theorem ti4 : tiOf Tryz.prog 4 = some ⟨false, 1, 1, .val (.bool false), [], 0, .bool⟩ := by kernel_rfl
theorem ti23 : tiOf Tryz.prog 23 = some ⟨true, 5, 40, .agg [.val (.int .i64 0), .val (.int .i64 0), .val (.int .i64 0), .val (.int .i64 0), .val (.int .i64 0)], [(0, 1, false), (1, 1, false), (2, 1, false), (3, 1, false), (4, 1, false)], 0, .struct⟩ := by kernel_rfl
theorem ti24 : tiOf Tryz.prog 24 = some ⟨false, 1, 24, .val (.slice none 0 0), [], 31, .slice⟩ := by kernel_rfl
theorem ti26 : tiOf Tryz.prog 26 = some ⟨true, 6, 64, .agg [.val (.int .i64 0), .val (.int .i64 0), .val (.int .i64 0), .val (.int .i64 0), .val (.int .i64 0), .val (.slice none 0 0)], [(0, 5, true), (5, 1, false)], 0, .struct⟩ := by kernel_rfl
theorem ti27 : tiOf Tryz.prog 27 = some ⟨false, 1, 24, .val (.slice none 0 0), [], 68, .slice⟩ := by kernel_rfl
theorem ti31 : tiOf Tryz.prog 31 = some ⟨false, 1, 24, .val (.slice none 0 0), [], 2, .slice⟩ := by kernel_rfl
theorem ti34 : tiOf Tryz.prog 34 = some ⟨true, 5, 40, .agg [.val (.int .i64 0), .val (.int .i64 0), .val (.int .i64 0), .val (.int .i64 0), .val (.int .i64 0)], [(0, 1, false), (1, 1, false), (2, 1, false), (3, 1, false), (4, 1, false)], 0, .struct⟩ := by kernel_rfl
theorem ti36 : tiOf Tryz.prog 36 = some ⟨true, 6, 64, .agg [.val (.int .i64 0), .val (.int .i64 0), .val (.int .i64 0), .val (.int .i64 0), .val (.int .i64 0), .val (.slice none 0 0)], [(0, 5, true), (5, 1, false)], 0, .struct⟩ := by kernel_rfl
theorem ti39 : tiOf Tryz.prog 39 = some ⟨false, 1, 24, .val (.slice none 0 0), [], 64, .slice⟩ := by kernel_rfl
theorem ti64 : tiOf Tryz.prog 64 = some ⟨true, 3, 24, .agg [.val (.bool false), .val (.int .i64 0), .val (.int .i64 0)], [(0, 1, false), (1, 1, false), (2, 1, false)], 0, .struct⟩ := by kernel_rfl
theorem ti68 : tiOf Tryz.prog 68 = some ⟨true, 3, 24, .agg [.val (.bool false), .val (.int .i64 0), .val (.int .i64 0)], [(0, 1, false), (1, 1, false), (2, 1, false)], 0, .struct⟩ := by kernel_rfl
theorem ti79 : tiOf Tryz.prog 79 = some ⟨false, 1, 24, .val (.slice none 0 0), [], 83, .slice⟩ := by kernel_rfl
theorem ti83 : tiOf Tryz.prog 83 = some ⟨true, 1, 24, .agg [.val (.slice none 0 0)], [(0, 1, false)], 0, .struct⟩ := by kernel_rfl
theorem ti97 : tiOf Tryz.prog 97 = some ⟨false, 1, 8, .val (.int .u64 0), [], 0, .int .u64⟩ := by kernel_rfl
attribute [go_sem] ti2 ti3 ti4
attribute [go_sem] ti23 ti24 ti26 ti27 ti31 ti34 ti36 ti39
attribute [go_sem] ti64 ti68 ti79
attribute [go_sem] ti83 ti97
end Go.Vc


set_option linter.unusedVariables false
set_option linter.unusedSimpArgs false
set_option linter.unnecessarySimpa false
namespace Go.Vc
open Go.Proofs
set_option maxRecDepth 100000
def isIn (a b c : Int) : Bool := decide (a ≥ b) && decide (a ≤ c)
theorem range_all_succ (p : Nat → Bool) (i : Nat) : (List.range (i + 1)).all p = ((List.range i).all p && p i) := by
  rw [List.range_succ, List.all_append]; simp
theorem range_all_no {p : Nat → Bool} {i n : Nat} (h : i < n) (hp : p i = false) : (List.range n).all p = false := by
  rw [List.all_eq_false]; exact ⟨i, List.mem_range.2 h, by simp [hp]⟩
def flt (p : Nat → Bool) (i : Nat) : List Int := List.map (fun j : Nat => (j : Int)) ((List.range i).filter p)
theorem flt_zero (p : Nat → Bool) : flt p 0 = [] := rfl
theorem flt_succ (p : Nat → Bool) (i : Nat) : flt p (i + 1) = if p i then flt p i ++ [(i : Int)] else flt p i := by
  simp only [flt, List.range_succ, List.filter_append, List.map_append]
  rw [List.filter_cons]
  split <;> simp
theorem flt_len (p : Nat → Bool) (i : Nat) : (flt p i).length ≤ i := by
  rw [flt, List.length_map]
  exact Nat.le_trans (List.length_filter_le _ _) (by simp)
theorem flt_mem {p : Nat → Bool} {i : Nat} {x : Int} (h : x ∈ flt p i) : ∃ j : Nat, j < i ∧ x = j ∧ p j = true := by
  simp only [flt, List.mem_map, List.mem_filter, List.mem_range] at h
  obtain ⟨j, ⟨h1, h2⟩, h3⟩ := h
  exact ⟨j, h1, h3.symm, h2⟩
attribute [irreducible] flt
theorem pred_toNat {i : Nat} (h : 0 < i) : ((i : Int) - 1).toNat = i - 1 := by omega
theorem c_l01In (a b c : Int) : Fn Tryz.prog 67 [eI a, eI b, eI c] true (· = eB (isIn a b c)) := by
  refine Fn.of_vcN 15 [.tmp 6] Tryz.func67 rfl rfl rfl rfl rfl (of_decide_eq_true rfl) ?_
  simp -dsimp -implicitDefEqProofs only [go_sem, ↓reduceIte]
  repeat' (refine Br.intro (fun _ => ?_) (fun _ => ?_) <;> try simp -dsimp -implicitDefEqProofs only [go_sem, ↓reduceIte, *])
  all_goals first
    | (simp_all [isIn]; done)
    | (simp_all [isIn]; omega)
theorem c_within (a b c : Int) : Fn Tryz.prog 65 [eI a, eI b, eI c] true (· = eB (isIn a b c)) := by
  refine Fn.of_vcN 15 [.tmp 6] Tryz.func65 rfl rfl rfl rfl rfl (of_decide_eq_true rfl) ?_
  simp -dsimp -implicitDefEqProofs only [go_sem, ↓reduceIte]
  repeat' (refine Br.intro (fun _ => ?_) (fun _ => ?_) <;> try simp -dsimp -implicitDefEqProofs only [go_sem, ↓reduceIte, *])
  all_goals first
    | (simp_all [isIn]; done)
    | (simp_all [isIn]; omega)
theorem c_allWithin (xs : List Int) (a b : Int) (h : xs.length ≤ 9223372036854775807) : Fn Tryz.prog 133 [eIs xs, eI a, eI b] true (· = eB (xs.all fun x => isIn x a b)) := by
  refine Fn.of_vcN 21 [.tmp 6] Tryz.func133 rfl rfl rfl rfl rfl (of_decide_eq_true rfl) ?_
  simp -dsimp -implicitDefEqProofs only [go_sem, ↓reduceIte]
  refine Later.up [1, 2, 9, 10] [18] [] xs.length (fun i => (xs.take i).all fun x => isIn x a b) (fun i => [(11, eI i)]) (fun _ => []) (by simp) ?_ rfl (fun i hi hI => ?_) (fun hI => ?_)
  · simp -dsimp -implicitDefEqProofs only [go_sem, ↓reduceIte]
  · simp -dsimp -implicitDefEqProofs only [pick_nil, pick_cons, look_nil, look_cons, dropB_nil, dropB_cons, inD_nil, inD_cons, inE_nil, inE_cons, or_t_l, or_f_l, Nat.reduceBEq, Nat.reduceDiv, Nat.reduceAdd, beq_self_eq_true, uq0, uq1, ↓reduceIte, Nat.reduceEqDiff, uq2, uq3]
    have no : isIn xs[i] a b = false → (xs.all fun x => isIn x a b) = false := fun h => all_no (p := fun x => isIn x a b) hi h
    have yes : isIn xs[i] a b = true → ((xs.take (i + 1)).all fun x => isIn x a b) = true := fun h => by rw [all_take _ _ _ hi, hI, h]; rfl
    simp -dsimp -implicitDefEqProofs only [go_sem, ↓reduceIte, lt_len hi, get_some hi]
    repeat' first
      | (refine Br.intro (fun _ => ?_) (fun _ => ?_) <;> try simp -dsimp -implicitDefEqProofs only [go_sem, ↓reduceIte, *])
      | (with_reducible refine And.intro ?_ ?_)
      | (refine sCallT_one (c_within _ _ _) ?_; try simp -dsimp -implicitDefEqProofs only [go_sem, ↓reduceIte, *])
    all_goals first | omega | (refine ⟨?_, ?_⟩ <;> omega) | (simp; done) | (rw [no]; clear no yes; simp_all []; done) | (rw [no]; clear no yes; simp_all []; omega) | (refine yes ?_; clear no yes; simp_all []; done) | (refine yes ?_; clear no yes; simp_all []; omega) | (simp_all [I64]; done) | (simp_all [I64]; omega) | trace_state
  · simp -dsimp -implicitDefEqProofs only [pick_nil, pick_cons, look_nil, look_cons, dropB_nil, dropB_cons, inD_nil, inD_cons, inE_nil, inE_cons, or_t_l, or_f_l, Nat.reduceBEq, Nat.reduceDiv, Nat.reduceAdd, beq_self_eq_true, uq0, uq1, ↓reduceIte, Nat.reduceEqDiff, uq2, uq3]
    simp -dsimp -implicitDefEqProofs only [go_sem, ↓reduceIte, nlt_len]
    rw [List.take_length] at hI
    rw [hI]
theorem mixed : Tryz.prog.follows .mixedOrders = true := by kernel_rfl
theorem c_szInt64S (xs : List Int) (n : Int) (h : xs.length ≤ 9223372036854775807) (hn : 0 ≤ n ∧ n ≤ 1048576) : Fn Tryz.prog 35 [eIs xs, eI n] true (· = eI (if n < xs.length then -1 else n - xs.length)) := by
  refine Fn.of_vcN 12 [.tmp 4] Tryz.func35 rfl rfl rfl rfl rfl (of_decide_eq_true rfl) ?_
  simp -dsimp -implicitDefEqProofs only [go_sem, ↓reduceIte]
  repeat' first
    | (refine Br.intro (fun _ => ?_) (fun _ => ?_) <;> try simp -dsimp -implicitDefEqProofs only [go_sem, ↓reduceIte, *])
    | (with_reducible refine And.intro ?_ ?_)
  all_goals first
    | (refine ⟨?_, ?_⟩ <;> omega)
    | (rw [if_pos]; simp_all <;> omega)
    | (rw [if_neg]; simp_all <;> omega)
theorem c_toInt64S (xs : List Int) (h : xs.length ≤ 1048576) : Fn Tryz.prog 41 [eIs xs] true (· = eIs xs) := by
  refine Fn.of_vcN 22 [.tmp 2] Tryz.func41 rfl rfl rfl rfl rfl (of_decide_eq_true rfl) ?_
  simp -dsimp -implicitDefEqProofs only [go_sem, ↓reduceIte]
  repeat' (with_reducible refine And.intro ?_ ?_)
  all_goals try omega
  refine Later.up [0, 3] [10] [7] xs.length (fun _ => True) (fun i => [(4, eI i)]) (fun i => [(7, .row 0 ⟨1, false⟩ true (fill eI (eI 0) xs i))]) trivial ?_ rfl (fun i hi _ => ?_) (fun _ => ?_)
  · simp -dsimp -implicitDefEqProofs only [go_sem, ↓reduceIte, fill_zero]
  · simp -dsimp -implicitDefEqProofs only [pick_nil, pick_cons, look_nil, look_cons, dropB_nil, dropB_cons, inD_nil, inD_cons, inE_nil, inE_cons, or_t_l, or_f_l, Nat.reduceBEq, Nat.reduceDiv, Nat.reduceAdd, beq_self_eq_true, uq0, uq1, ↓reduceIte, Nat.reduceEqDiff, uq2, uq3]
    simp -dsimp -implicitDefEqProofs only [go_sem, ↓reduceIte, lt_len hi, get_some hi, fill_get _ _ _ _ hi, fill_set _ _ _ _ hi]
    repeat' first
      | (with_reducible refine And.intro ?_ ?_)
      | fail
    all_goals first
      | omega
      | (refine ⟨?_, ?_⟩ <;> omega)
      | (simp; done)
  · simp -dsimp -implicitDefEqProofs only [pick_nil, pick_cons, look_nil, look_cons, dropB_nil, dropB_cons, inD_nil, inD_cons, inE_nil, inE_cons, or_t_l, or_f_l, Nat.reduceBEq, Nat.reduceDiv, Nat.reduceAdd, beq_self_eq_true, uq0, uq1, ↓reduceIte, Nat.reduceEqDiff, uq2, uq3]
    simp -dsimp -implicitDefEqProofs only [go_sem, ↓reduceIte, nlt_len, fill_all]
    repeat' (with_reducible refine And.intro ?_ ?_)
    all_goals first
      | omega
      | decide
      | (simp; done)
theorem c_eqInt64S (xs ys : List Int) (h : xs.length ≤ 9223372036854775807) : Fn Tryz.prog 14 [eIs xs, eIs ys] true (· = eB (decide (xs = ys))) := by
  refine Fn.of_vcN 26 [.tmp 4] Tryz.func14 rfl rfl rfl rfl rfl (of_decide_eq_true rfl) ?_
  simp -dsimp -implicitDefEqProofs only [go_sem, ↓reduceIte]
  repeat' (refine Br.intro (fun _ => ?_) (fun _ => ?_) <;> try simp -dsimp -implicitDefEqProofs only [go_sem, ↓reduceIte, *])
  · rw [decide_eq_false]; intro e; subst e; simp_all
  have h1 : xs.length = ys.length := by simp_all <;> omega
  refine Later.up [0, 1] [13] [] xs.length (fun i => xs.take i = ys.take i) (fun i => [(5, eI i)]) (fun _ => []) rfl ?_ rfl (fun i hi hI => ?_) (fun hI => ?_)
  · simp -dsimp -implicitDefEqProofs only [go_sem, ↓reduceIte]
  · simp -dsimp -implicitDefEqProofs only [pick_nil, pick_cons, look_nil, look_cons, dropB_nil, dropB_cons, inD_nil, inD_cons, inE_nil, inE_cons, or_t_l, or_f_l, Nat.reduceBEq, Nat.reduceDiv, Nat.reduceAdd, beq_self_eq_true, uq0, uq1, ↓reduceIte, Nat.reduceEqDiff, uq2, uq3]
    have hy : i < ys.length := by omega
    have no : xs[i] ≠ ys[i] → decide (xs = ys) = false := eq_no hi hy
    have yes : xs[i] = ys[i] → xs.take (i + 1) = ys.take (i + 1) := eq_yes hi hy hI
    simp -dsimp -implicitDefEqProofs only [go_sem, ↓reduceIte, lt_len hi, get_some hi]
    refine Later.draw mixed rfl ?_
    simp -dsimp -implicitDefEqProofs only [go_sem, ↓reduceIte, get_some hi, get_some hy]
    repeat' first
      | (refine Br.intro (fun _ => ?_) (fun _ => ?_) <;> try simp -dsimp -implicitDefEqProofs only [go_sem, ↓reduceIte, *])
      | (with_reducible refine And.intro ?_ ?_)
      | fail
    all_goals first
      | omega
      | (refine ⟨?_, ?_⟩ <;> omega)
      | rfl
      | (simp; done)
      | (rw [no]; clear no yes; simp_all; done)
      | (refine yes ?_; clear no yes; simp_all; done)
  · simp -dsimp -implicitDefEqProofs only [pick_nil, pick_cons, look_nil, look_cons, dropB_nil, dropB_cons, inD_nil, inD_cons, inE_nil, inE_cons, or_t_l, or_f_l, Nat.reduceBEq, Nat.reduceDiv, Nat.reduceAdd, beq_self_eq_true, uq0, uq1, ↓reduceIte, Nat.reduceEqDiff, uq2, uq3]
    simp -dsimp -implicitDefEqProofs only [go_sem, ↓reduceIte, nlt_len]
    have h3 : xs = ys := by rw [← List.take_length (l := xs), hI, h1, List.take_length]
    simp [h3]
def markLInt64S (k : Int) (n : Nat) : List Int := (List.range n).map fun i : Nat => (k + (i : Int))
theorem markLInt64S_len (k : Int) (n : Nat) : (markLInt64S k n).length = n := by simp [markLInt64S]
theorem take_markLInt64S {β : Type} (f : Int → β) (k : Int) (n : Nat) : ((markLInt64S k n).map f).take n = (markLInt64S k n).map f := List.take_of_length_le (by simp [markLInt64S])
attribute [go_sem] markLInt64S_len take_markLInt64S
theorem c_markInt64S (xs : List Int) (k : Int) (v : Nat) (dp : Bool) (hk : 0 ≤ k ∧ k ≤ 1000000000000) (h : xs.length ≤ 1000000000000) :
    FnM Tryz.prog 20 [.row v ⟨1, false⟩ dp (xs.map eI)] [.ref 1000000000 v 0 xs.length, eI k] (fun x io => x = eI (k + 1 * xs.length) ∧ io = [.row v ⟨1, false⟩ dp ((markLInt64S k xs.length).map eI)]) := by
  refine FnM.of_vcN 19 [.tmp 4] Tryz.func20 rfl rfl rfl rfl rfl (of_decide_eq_true rfl) ?_
  simp -dsimp -implicitDefEqProofs only [go_sem, ↓reduceIte]
  refine Later.up [0] [8] [1000000000] xs.length (fun _ => True) (fun i => [(5, eI i), (1, eI (k + 1 * i))]) (fun i => [(1000000000, .row v ⟨1, false⟩ dp (mk1 (fun i : Nat => eI ((k + (i : Int)))) (xs.map eI) i))]) trivial ?_ rfl (fun i hi _ => ?_) (fun _ => ?_)
  · simp -dsimp -implicitDefEqProofs only [go_sem, ↓reduceIte, mk1_zero, Int.mul_zero, Int.add_zero]
  · simp -dsimp -implicitDefEqProofs only [pick_nil, pick_cons, look_nil, look_cons, dropB_nil, dropB_cons, inD_nil, inD_cons, inE_nil, inE_cons, or_t_l, or_f_l, Nat.reduceBEq, Nat.reduceDiv, Nat.reduceAdd, beq_self_eq_true, uq0, uq1, ↓reduceIte, Nat.reduceEqDiff, uq2, uq3]
    have g0 := mk1_get (fun i : Nat => eI ((k + (i : Int)))) (xs.map eI) i (by simpa using hi)
    have g1 := mk1_set (fun i : Nat => eI ((k + (i : Int)))) (xs.map eI) i (by simpa using hi)
    have g2 := fun x => mk1_set2 (fun i : Nat => eI ((k + (i : Int)))) (xs.map eI) i x (by simpa using hi)
    rw [List.getElem_map] at g0
    simp -dsimp -implicitDefEqProofs only [go_sem, ↓reduceIte, lt_len hi, g0, g2, List.set_set, mk1_len, List.length_set]
    repeat' (with_reducible refine And.intro ?_ ?_)
    all_goals first
      | omega
      | (refine ⟨?_, ?_⟩ <;> omega)
      | (simp; done)
      | (simp; omega)
      | (rw [← g1]; congr 1; simp <;> omega)
  · simp -dsimp -implicitDefEqProofs only [pick_nil, pick_cons, look_nil, look_cons, dropB_nil, dropB_cons, inD_nil, inD_cons, inE_nil, inE_cons, or_t_l, or_f_l, Nat.reduceBEq, Nat.reduceDiv, Nat.reduceAdd, beq_self_eq_true, uq0, uq1, ↓reduceIte, Nat.reduceEqDiff, uq2, uq3]
    simp -dsimp -implicitDefEqProofs only [go_sem, ↓reduceIte, nlt_len, mk1_all _ _ _ (show (xs.map eI).length ≤ xs.length by simp)]
    repeat' (with_reducible refine And.intro ?_ ?_)
    all_goals first
      | (simp; done)
      | (simp [markLInt64S, List.map_map, Function.comp_def]; done)
theorem c_heldInt64S (n : Nat) (k : Int) (hk : 0 ≤ k ∧ k ≤ 1000000000000) (h : n ≤ 1000000000000) :
    Fn Tryz.prog 22 [eIs (markLInt64S k n), eI k] true (· = eI (k + 1 * n)) := by
  refine Fn.of_vcN 21 [.tmp 4] Tryz.func22 rfl rfl rfl rfl rfl (of_decide_eq_true rfl) ?_
  simp -dsimp -implicitDefEqProofs only [go_sem, ↓reduceIte]
  have hl : (markLInt64S k n).length = n := by simp [markLInt64S]
  refine Later.up [0] [8] [] n (fun _ => True) (fun i => [(5, eI i), (1, eI (k + 1 * i))]) (fun _ => []) trivial ?_ rfl (fun i hi _ => ?_) (fun _ => ?_)
  · simp -dsimp -implicitDefEqProofs only [go_sem, ↓reduceIte, Int.mul_zero, Int.add_zero]
  · simp -dsimp -implicitDefEqProofs only [pick_nil, pick_cons, look_nil, look_cons, dropB_nil, dropB_cons, inD_nil, inD_cons, inE_nil, inE_cons, or_t_l, or_f_l, Nat.reduceBEq, Nat.reduceDiv, Nat.reduceAdd, beq_self_eq_true, uq0, uq1, ↓reduceIte, Nat.reduceEqDiff, uq2, uq3]
    have g0 : (markLInt64S k n)[i]? = some ((k + (i : Int))) := by simp [markLInt64S, hi]
    simp -dsimp -implicitDefEqProofs only [go_sem, ↓reduceIte, hl, lt_len hi, g0, bne_self_eq_false]
    repeat' first
      | (refine Br.intro (fun _ => ?_) (fun _ => ?_) <;> try simp -dsimp -implicitDefEqProofs only [go_sem, ↓reduceIte, *])
      | (with_reducible refine And.intro ?_ ?_)
    all_goals first
      | omega
      | (refine ⟨?_, ?_⟩ <;> omega)
      | (simp; done)
      | (simp; omega)
      | (simp_all; done)
      | (simp_all; omega)
  · simp -dsimp -implicitDefEqProofs only [pick_nil, pick_cons, look_nil, look_cons, dropB_nil, dropB_cons, inD_nil, inD_cons, inE_nil, inE_cons, or_t_l, or_f_l, Nat.reduceBEq, Nat.reduceDiv, Nat.reduceAdd, beq_self_eq_true, uq0, uq1, ↓reduceIte, Nat.reduceEqDiff, uq2, uq3]
    simp -dsimp -implicitDefEqProofs only [go_sem, ↓reduceIte, hl, nlt_len]
theorem c_l01Own (xs : List Int) (h : xs.length ≤ 1048576) : Fn Tryz.prog 72 [eIs xs] true (· = eIs xs) := by
  refine Fn.of_vcN 6 [.tmp 2] Tryz.func72 rfl rfl rfl rfl rfl (of_decide_eq_true rfl) ?_
  simp -dsimp -implicitDefEqProofs only [go_sem, ↓reduceIte]
  repeat' (with_reducible refine And.intro ?_ ?_)
  all_goals first | omega | (refine ⟨?_, ?_⟩ <;> omega) | (simp; done) | (simp; omega) | trace_state
theorem c_CloneI (xs : List Int) (h : xs.length ≤ 1048576) : Fn Tryz.prog 47 [eIs xs] true (· = eIs xs) := by
  refine Fn.of_vcN 8 [.tmp 2] Tryz.func47 rfl rfl rfl rfl rfl (of_decide_eq_true rfl) ?_
  simp -dsimp -implicitDefEqProofs only [go_sem, ↓reduceIte]
  intro c hc
  repeat' first
    | (refine Br.intro (fun _ => ?_) (fun _ => ?_) <;> try simp -dsimp -implicitDefEqProofs only [go_sem, ↓reduceIte, *])
    | (with_reducible refine And.intro ?_ ?_)
  all_goals first | (simp_all; done) | omega | (refine ⟨?_, ?_⟩ <;> omega) | (simp; done) | (simp; omega) | trace_state
end Go.Vc


set_option linter.unusedVariables false
set_option linter.unusedSimpArgs false
set_option linter.unnecessarySimpa false
namespace Go.Vc
open Go.Proofs
set_option maxRecDepth 100000
abbrev eIss (xs : List (List Int)) : AV := .arr ⟨1, false⟩ (xs.map eIs)
abbrev eLk (l : List (List Int)) : AV := .agg [eIss l]
def tot (xs : List (List Int)) : Nat := (xs.map List.length).sum
theorem tot_nil : tot [] = 0 := rfl
theorem tot_take (xs : List (List Int)) (i : Nat) (h : i < xs.length) : tot (xs.take (i + 1)) = tot (xs.take i) + xs[i].length := by
  rw [List.take_succ_eq_append_getElem h, tot, List.map_append, List.sum_append]; simp [tot]
theorem tot_le (xs : List (List Int)) (i : Nat) : tot (xs.take i) ≤ tot xs := by
  have : tot xs = tot (xs.take i) + tot (xs.drop i) := by
    rw [tot, tot, tot, ← List.sum_append, ← List.map_append, List.take_append_drop]
  omega
theorem len_tot (xs : List (List Int)) (x : List Int) (h : x ∈ xs) : x.length ≤ tot xs := by
  obtain ⟨i, hi, rfl⟩ := List.getElem_of_mem h
  have := tot_le xs (i + 1)
  rw [tot_take xs i hi] at this; omega
theorem tot_eq (xs : List (List Int)) : tot xs = (xs.map List.length).sum := rfl
attribute [irreducible] tot
theorem c_szInt64SS (xs : List (List Int)) (n : Int) (h : xs.length ≤ 9223372036854775807) (h2 : ∀ x ∈ xs, x.length ≤ 9223372036854775807) (hn : 0 ≤ n ∧ n ≤ 1048576) :
    Fn Tryz.prog 6 [eIss xs, eI n] true (· = eI (if n < xs.length + tot xs then -1 else n - (xs.length + tot xs))) := by
  refine Fn.of_vcN 27 [.tmp 4] Tryz.func6 rfl rfl rfl rfl rfl (of_decide_eq_true rfl) ?_
  simp -dsimp -implicitDefEqProofs only [go_sem, ↓reduceIte]
  repeat' first
    | (refine Br.intro (fun _ => ?_) (fun _ => ?_) <;> try simp -dsimp -implicitDefEqProofs only [go_sem, ↓reduceIte, *])
    | (with_reducible refine And.intro ?_ ?_)
  · refine ⟨?_, ?_⟩ <;> omega
  · rw [if_pos]
    simp_all; omega
  rename_i hb
  have hb : (0 : Int) ≤ n - xs.length := by simpa using hb
  refine Later.up [0] [14, 23] [] xs.length (fun i => (xs.length : Int) + tot (xs.take i) ≤ n) (fun i => [(5, eI i), (1, eI (n - xs.length - tot (xs.take i)))]) (fun _ => []) (by rw [List.take_zero, tot_nil]; omega) ?_ rfl (fun i hi hI => ?_) (fun hI => ?_)
  · simp -dsimp -implicitDefEqProofs only [go_sem, ↓reduceIte, List.take_zero, tot_nil]
    simp
  · have hx := h2 xs[i] (List.getElem_mem hi)
    have ht := tot_take xs i hi
    have hl := tot_le xs (i + 1)
    simp -dsimp -implicitDefEqProofs only [pick_nil, pick_cons, look_nil, look_cons, dropB_nil, dropB_cons, inD_nil, inD_cons, inE_nil, inE_cons, or_t_l, or_f_l, Nat.reduceBEq, Nat.reduceDiv, Nat.reduceAdd, beq_self_eq_true, uq0, uq1, ↓reduceIte, Nat.reduceEqDiff, uq2, uq3]
    simp -dsimp -implicitDefEqProofs only [go_sem, ↓reduceIte, lt_len hi, get_some hi]
    repeat' (with_reducible refine And.intro ?_ ?_)
    all_goals try omega
    refine sCallT_one (c_szInt64S xs[i] _ hx (by omega)) ?_
    by_cases hlt : (n - xs.length - tot (xs.take i) : Int) < xs[i].length
    · rw [if_pos hlt]
      simp -dsimp -implicitDefEqProofs only [go_sem, ↓reduceIte]
      repeat' (refine Br.intro (fun _ => ?_) (fun _ => ?_) <;> try simp -dsimp -implicitDefEqProofs only [go_sem, ↓reduceIte, *])
      · rw [if_pos (by omega)]
      · simp_all
    · rw [if_neg hlt]
      simp -dsimp -implicitDefEqProofs only [go_sem, ↓reduceIte]
      repeat' first
        | (refine Br.intro (fun _ => ?_) (fun _ => ?_) <;> try simp -dsimp -implicitDefEqProofs only [go_sem, ↓reduceIte, *])
        | (with_reducible refine And.intro ?_ ?_)
      all_goals first
        | omega
        | (refine ⟨?_, ?_⟩ <;> omega)
        | (simp only [Value.int.injEq, true_and]; omega)
        | (simp_all; omega)
        | trace_state
  · simp -dsimp -implicitDefEqProofs only [pick_nil, pick_cons, look_nil, look_cons, dropB_nil, dropB_cons, inD_nil, inD_cons, inE_nil, inE_cons, or_t_l, or_f_l, Nat.reduceBEq, Nat.reduceDiv, Nat.reduceAdd, beq_self_eq_true, uq0, uq1, ↓reduceIte, Nat.reduceEqDiff, uq2, uq3]
    rw [List.take_length] at hI ⊢
    simp -dsimp -implicitDefEqProofs only [go_sem, ↓reduceIte, nlt_len]
    rw [if_neg (by omega)]
    rw [show (n - ↑xs.length - ↑(tot xs) : Int) = n - (↑xs.length + ↑(tot xs)) by omega]
theorem c_toInt64SS (xs : List (List Int)) (h : xs.length ≤ 1048576) (h2 : ∀ x ∈ xs, x.length ≤ 1048576) : Fn Tryz.prog 10 [eIss xs] true (· = eIss xs) := by
  refine Fn.of_vcN 23 [.tmp 2] Tryz.func10 rfl rfl rfl rfl rfl (of_decide_eq_true rfl) ?_
  simp -dsimp -implicitDefEqProofs only [go_sem, ↓reduceIte]
  repeat' (with_reducible refine And.intro ?_ ?_)
  all_goals try omega
  refine Later.up [0, 3] [10, 20] [7] xs.length (fun _ => True) (fun i => [(4, eI i)]) (fun i => [(7, .row 0 ⟨1, false⟩ true (fill eIs (.val (.slice none 0 0)) xs i))]) trivial ?_ rfl (fun i hi _ => ?_) (fun _ => ?_)
  · simp -dsimp -implicitDefEqProofs only [go_sem, ↓reduceIte, fill_zero]
  · have hx := h2 xs[i] (List.getElem_mem hi)
    simp -dsimp -implicitDefEqProofs only [pick_nil, pick_cons, look_nil, look_cons, dropB_nil, dropB_cons, inD_nil, inD_cons, inE_nil, inE_cons, or_t_l, or_f_l, Nat.reduceBEq, Nat.reduceDiv, Nat.reduceAdd, beq_self_eq_true, uq0, uq1, ↓reduceIte, Nat.reduceEqDiff, uq2, uq3]
    simp -dsimp -implicitDefEqProofs only [go_sem, ↓reduceIte, lt_len hi, get_some hi, fill_get _ _ _ _ hi, fill_set _ _ _ _ hi]
    repeat' first
      | (with_reducible refine And.intro ?_ ?_)
      | (refine sCallT_one (c_toInt64S xs[i] hx) ?_; try simp -dsimp -implicitDefEqProofs only [go_sem, ↓reduceIte, *, fill_get _ _ _ _ hi, fill_set _ _ _ _ hi])
    all_goals first
      | omega
      | (refine ⟨?_, ?_⟩ <;> omega)
      | (simp; done)
      | (rw [fill_len _ _ _ _ (by omega)]; omega)
      | trace_state
  · simp -dsimp -implicitDefEqProofs only [pick_nil, pick_cons, look_nil, look_cons, dropB_nil, dropB_cons, inD_nil, inD_cons, inE_nil, inE_cons, or_t_l, or_f_l, Nat.reduceBEq, Nat.reduceDiv, Nat.reduceAdd, beq_self_eq_true, uq0, uq1, ↓reduceIte, Nat.reduceEqDiff, uq2, uq3]
    simp -dsimp -implicitDefEqProofs only [go_sem, ↓reduceIte, nlt_len, fill_all]
    repeat' (with_reducible refine And.intro ?_ ?_)
    all_goals first
      | omega
      | decide
      | (simp; done)
theorem c_eqInt64SS (xs ys : List (List Int)) (h : xs.length ≤ 9223372036854775807) (h2 : ∀ x ∈ xs, x.length ≤ 9223372036854775807) : Fn Tryz.prog 13 [eIss xs, eIss ys] true (· = eB (decide (xs = ys))) := by
  refine Fn.of_vcN 27 [.tmp 4] Tryz.func13 rfl rfl rfl rfl rfl (of_decide_eq_true rfl) ?_
  simp -dsimp -implicitDefEqProofs only [go_sem, ↓reduceIte]
  repeat' (refine Br.intro (fun _ => ?_) (fun _ => ?_) <;> try simp -dsimp -implicitDefEqProofs only [go_sem, ↓reduceIte, *])
  · rw [decide_eq_false]; intro e; subst e; simp_all
  have h1 : xs.length = ys.length := by simp_all <;> omega
  refine Later.up [0, 1] [13, 25] [] xs.length (fun i => xs.take i = ys.take i) (fun i => [(5, eI i)]) (fun _ => []) rfl ?_ rfl (fun i hi hI => ?_) (fun hI => ?_)
  · simp -dsimp -implicitDefEqProofs only [go_sem, ↓reduceIte]
  · have hx := h2 xs[i] (List.getElem_mem hi)
    simp -dsimp -implicitDefEqProofs only [pick_nil, pick_cons, look_nil, look_cons, dropB_nil, dropB_cons, inD_nil, inD_cons, inE_nil, inE_cons, or_t_l, or_f_l, Nat.reduceBEq, Nat.reduceDiv, Nat.reduceAdd, beq_self_eq_true, uq0, uq1, ↓reduceIte, Nat.reduceEqDiff, uq2, uq3]
    have hy : i < ys.length := by omega
    have no : xs[i] ≠ ys[i] → decide (xs = ys) = false := eq_no hi hy
    have yes : xs[i] = ys[i] → xs.take (i + 1) = ys.take (i + 1) := eq_yes hi hy hI
    simp -dsimp -implicitDefEqProofs only [go_sem, ↓reduceIte, lt_len hi, get_some hi, get_some hy]
    repeat' first
      | (refine Br.intro (fun _ => ?_) (fun _ => ?_) <;> try simp -dsimp -implicitDefEqProofs only [go_sem, ↓reduceIte, *])
      | (with_reducible refine And.intro ?_ ?_)
      | (refine Later.draw mixed rfl ?_; simp -dsimp -implicitDefEqProofs only [go_sem, ↓reduceIte, get_some hi, get_some hy])
      | (refine sCallT_one (c_eqInt64S xs[i] ys[i] hx) ?_; try simp -dsimp -implicitDefEqProofs only [go_sem, ↓reduceIte, *])
      | (refine sCallX_one (c_eqInt64S xs[i] ys[i] hx) ?_; try simp -dsimp -implicitDefEqProofs only [go_sem, ↓reduceIte, *])
    all_goals first
      | omega
      | (refine ⟨?_, ?_⟩ <;> omega)
      | rfl
      | (simp; done)
      | (rw [no]; clear no yes; simp_all; done)
      | (refine yes ?_; clear no yes; simp_all; done)
      | trace_state
  · simp -dsimp -implicitDefEqProofs only [pick_nil, pick_cons, look_nil, look_cons, dropB_nil, dropB_cons, inD_nil, inD_cons, inE_nil, inE_cons, or_t_l, or_f_l, Nat.reduceBEq, Nat.reduceDiv, Nat.reduceAdd, beq_self_eq_true, uq0, uq1, ↓reduceIte, Nat.reduceEqDiff, uq2, uq3]
    simp -dsimp -implicitDefEqProofs only [go_sem, ↓reduceIte, nlt_len]
    have h3 : xs = ys := by rw [← List.take_length (l := xs), hI, h1, List.take_length]
    simp [h3]
def mrow (k : Int) (ns : List Nat) (j : Nat) : List Int := markLInt64S (k + (ns.take j).sum) (ns.getD j 0)
def markLL (k : Int) (ns : List Nat) : List (List Int) := (List.range ns.length).map (mrow k ns)
theorem sum_take (ns : List Nat) (i : Nat) (h : i < ns.length) : (ns.take (i + 1)).sum = (ns.take i).sum + ns[i] := by
  rw [List.take_succ_eq_append_getElem h, List.sum_append]; simp
theorem sum_le (ns : List Nat) (i : Nat) : (ns.take i).sum ≤ ns.sum := by
  have : ns.sum = (ns.take i).sum + (ns.drop i).sum := by rw [← List.sum_append, List.take_append_drop]
  omega
theorem c_markInt64SS (xs : List (List Int)) (k : Int) (v : Nat) (hk : 0 ≤ k ∧ k ≤ 100000000000) (h : xs.length ≤ 1000000000) (h2 : (xs.map List.length).sum ≤ 1000000000) :
    FnM Tryz.prog 18 [.row v ⟨1, false⟩ true (xs.map eIs)] [.ref 1000000000 v 0 xs.length, eI k]
      (fun x io => x = eI (k + (xs.map List.length).sum) ∧ io = [.row v ⟨1, false⟩ true ((markLL k (xs.map List.length)).map eIs)]) := by
  refine FnM.of_vcN 19 [.tmp 4] Tryz.func18 rfl rfl rfl rfl rfl (of_decide_eq_true rfl) ?_
  simp -dsimp -implicitDefEqProofs only [go_sem, ↓reduceIte]
  refine Later.up [0] [8, 17] [1000000000] xs.length (fun _ => True) (fun i => [(5, eI i), (1, eI (k + ((xs.map List.length).take i).sum))]) (fun i => [(1000000000, .row v ⟨1, false⟩ true (mk1 (fun j => eIs (mrow k (xs.map List.length) j)) (xs.map eIs) i))]) trivial ?_ rfl (fun i hi _ => ?_) (fun _ => ?_)
  · simp -dsimp -implicitDefEqProofs only [go_sem, ↓reduceIte, mk1_zero, List.take_zero, List.sum_nil]
    simp
  · have hi2 : i < (xs.map eIs).length := by simpa using hi
    have hi3 : i < (xs.map List.length).length := by simpa using hi
    have g0 := mk1_get (fun j => eIs (mrow k (xs.map List.length) j)) (xs.map eIs) i hi2
    have g1 := mk1_set (fun j => eIs (mrow k (xs.map List.length) j)) (xs.map eIs) i hi2
    have s1 := sum_take (xs.map List.length) i hi3
    have s2 := sum_le (xs.map List.length) (i + 1)
    rw [List.getElem_map] at g0 s1
    have hr : mrow k (xs.map List.length) i = markLInt64S (k + ((xs.map List.length).take i).sum) xs[i].length := by
      rw [mrow, List.getD_eq_getElem?_getD, List.getElem?_eq_getElem hi3, List.getElem_map]; rfl
    simp -dsimp -implicitDefEqProofs only [pick_nil, pick_cons, look_nil, look_cons, dropB_nil, dropB_cons, inD_nil, inD_cons, inE_nil, inE_cons, or_t_l, or_f_l, Nat.reduceBEq, Nat.reduceDiv, Nat.reduceAdd, beq_self_eq_true, uq0, uq1, ↓reduceIte, Nat.reduceEqDiff, uq2, uq3]
    simp -dsimp -implicitDefEqProofs only [go_sem, ↓reduceIte, lt_len hi, g0, mk1_len]
    repeat' (with_reducible refine And.intro ?_ ?_)
    all_goals first
      | omega
      | (rw [mk1_len _ _ _ (by omega)]; simpa using hi2)
      | skip
    intro u
    refine sCallT_in 1000000000 rfl g0 rfl (c_markInt64S xs[i] (k + ((xs.map List.length).take i).sum) 0 true (by omega) (by omega)) (by simp) (by simp [markLInt64S]) ?_
    rw [show (AV.arr ⟨1, false⟩ ((markLInt64S (k + ((xs.map List.length).take i).sum) xs[i].length).map eI)) = eIs (mrow k (xs.map List.length) i) by rw [hr]]
    simp -dsimp -implicitDefEqProofs only [go_sem, ↓reduceIte, g1]
    repeat' (with_reducible refine And.intro ?_ ?_)
    all_goals first
      | omega
      | (refine ⟨?_, ?_⟩ <;> omega)
      | (simp; done)
      | (simp only [Value.int.injEq, true_and]; omega)
      | trace_state
  · simp -dsimp -implicitDefEqProofs only [pick_nil, pick_cons, look_nil, look_cons, dropB_nil, dropB_cons, inD_nil, inD_cons, inE_nil, inE_cons, or_t_l, or_f_l, Nat.reduceBEq, Nat.reduceDiv, Nat.reduceAdd, beq_self_eq_true, uq0, uq1, ↓reduceIte, Nat.reduceEqDiff, uq2, uq3]
    simp -dsimp -implicitDefEqProofs only [go_sem, ↓reduceIte, nlt_len, mk1_all _ _ _ (show (xs.map eIs).length ≤ xs.length by simp)]
    repeat' (with_reducible refine And.intro ?_ ?_)
    all_goals first
      | (simp; done)
      | (simp [markLL, List.map_map, Function.comp_def]; done)
      | (rw [show ((xs.map List.length).take xs.length) = xs.map List.length from List.take_of_length_le (by simp)]; done)
      | trace_state
theorem c_heldInt64SS (ns : List Nat) (k : Int) (hk : 0 ≤ k ∧ k ≤ 100000000000) (h : ns.length ≤ 1000000000) (h2 : ns.sum ≤ 1000000000) :
    Fn Tryz.prog 21 [eIss (markLL k ns), eI k] true (· = eI (k + ns.sum)) := by
  refine Fn.of_vcN 21 [.tmp 4] Tryz.func21 rfl rfl rfl rfl rfl (of_decide_eq_true rfl) ?_
  simp -dsimp -implicitDefEqProofs only [go_sem, ↓reduceIte]
  have hl : (markLL k ns).length = ns.length := by simp [markLL]
  refine Later.up [0] [8, 17] [] ns.length (fun _ => True) (fun i => [(5, eI i), (1, eI (k + (ns.take i).sum))]) (fun _ => []) trivial ?_ rfl (fun i hi _ => ?_) (fun _ => ?_)
  · simp -dsimp -implicitDefEqProofs only [go_sem, ↓reduceIte, List.take_zero, List.sum_nil]
    simp
  · have g0 : (markLL k ns)[i]? = some (markLInt64S (k + (ns.take i).sum) ns[i]) := by simp [markLL, mrow, hi]
    have s1 := sum_take ns i hi
    have s2 := sum_le ns (i + 1)
    simp -dsimp -implicitDefEqProofs only [pick_nil, pick_cons, look_nil, look_cons, dropB_nil, dropB_cons, inD_nil, inD_cons, inE_nil, inE_cons, or_t_l, or_f_l, Nat.reduceBEq, Nat.reduceDiv, Nat.reduceAdd, beq_self_eq_true, uq0, uq1, ↓reduceIte, Nat.reduceEqDiff, uq2, uq3]
    simp -dsimp -implicitDefEqProofs only [go_sem, ↓reduceIte, hl, lt_len hi, g0]
    refine ⟨⟨by omega, by omega⟩, ?_⟩
    refine sCallT_one (c_heldInt64S ns[i] (k + (ns.take i).sum) (by omega) (by omega)) ?_
    simp -dsimp -implicitDefEqProofs only [go_sem, ↓reduceIte]
    repeat' first
      | (refine Br.intro (fun _ => ?_) (fun _ => ?_) <;> try simp -dsimp -implicitDefEqProofs only [go_sem, ↓reduceIte, *])
      | (with_reducible refine And.intro ?_ ?_)
    all_goals first
      | omega
      | (refine ⟨?_, ?_⟩ <;> omega)
      | (simp; done)
      | (simp_all; omega)
      | (simp only [Value.int.injEq, true_and]; omega)
      | trace_state
  · simp -dsimp -implicitDefEqProofs only [pick_nil, pick_cons, look_nil, look_cons, dropB_nil, dropB_cons, inD_nil, inD_cons, inE_nil, inE_cons, or_t_l, or_f_l, Nat.reduceBEq, Nat.reduceDiv, Nat.reduceAdd, beq_self_eq_true, uq0, uq1, ↓reduceIte, Nat.reduceEqDiff, uq2, uq3]
    simp -dsimp -implicitDefEqProofs only [go_sem, ↓reduceIte, hl, nlt_len]
    rw [List.take_length]
structure MkM where
  chambers : Int
  depths : Int
  step : Int
  same : Int
  least : Int
  deriving DecidableEq
abbrev eMk (m : MkM) : AV := .agg [eI m.chambers, eI m.depths, eI m.step, eI m.same, eI m.least]
theorem c_toMaker (t : MkM) : Fn Tryz.prog 40 [eMk t] true (· = eMk t) := by
  refine Fn.of_vcN 20 [.cell 2 34] Tryz.func40 rfl rfl rfl rfl rfl (of_decide_eq_true rfl) ?_
  simp -dsimp -implicitDefEqProofs only [go_sem, ↓reduceIte]
  repeat' (with_reducible refine And.intro ?_ ?_)
  all_goals first | omega | (simp; done)
theorem c_eqMaker (t u : MkM) : Fn Tryz.prog 49 [eMk t, eMk u] true (· = eB (decide (t = u))) := by
  refine Fn.of_vcN 30 [.tmp 4] Tryz.func49 rfl rfl rfl rfl rfl (of_decide_eq_true rfl) ?_
  simp -dsimp -implicitDefEqProofs only [go_sem, ↓reduceIte]
  repeat' (refine Br.intro (fun _ => ?_) (fun _ => ?_) <;> try simp -dsimp -implicitDefEqProofs only [go_sem, ↓reduceIte, *])
  all_goals (cases t; cases u; simp_all)
end Go.Vc


set_option linter.unusedVariables false
set_option linter.unusedSimpArgs false
set_option linter.unnecessarySimpa false
namespace Go.Vc
open Go.Proofs
set_option maxRecDepth 100000
def isMk (m : MkM) : Bool := isIn m.chambers 2 6 && isIn m.depths 2 8 && isIn m.step 1 (m.depths - 1) && isIn m.same 1 m.chambers && isIn m.least 1 (if m.depths < m.chambers then m.depths else m.chambers)
theorem isMk_num {m : MkM} (h : isMk m = true) : (2 ≤ m.chambers ∧ m.chambers ≤ 6) ∧ 2 ≤ m.depths ∧ m.depths ≤ 8 := by
  simp [isMk, isIn] at h; omega
theorem c_sIsMaker (m : MkM) : Fn Tryz.prog 85 [eMk m] true (· = eB (isMk m)) := by
  refine Fn.of_vcN 36 [.tmp 2] Tryz.func85 rfl rfl rfl rfl rfl (of_decide_eq_true rfl) ?_
  simp -dsimp -implicitDefEqProofs only [go_sem, ↓reduceIte]
  repeat' first
    | (refine Br.intro (fun _ => ?_) (fun _ => ?_) <;> try simp -dsimp -implicitDefEqProofs only [go_sem, ↓reduceIte, *])
    | (with_reducible refine And.intro ?_ ?_)
    | (refine sCallT_one (c_l01In _ _ _) ?_; try simp -dsimp -implicitDefEqProofs only [go_sem, ↓reduceIte, *])
  all_goals first
    | (simp_all [isMk, isIn, I64]; done)
    | (simp_all [isMk, isIn, I64]; omega)
    | trace_state
theorem c_iIsMaker (m : MkM) : Fn Tryz.prog 105 [eMk m] true (· = eB (isMk m)) := by
  refine Fn.of_vcN 36 [.tmp 2] Tryz.func105 rfl rfl rfl rfl rfl (of_decide_eq_true rfl) ?_
  simp -dsimp -implicitDefEqProofs only [go_sem, ↓reduceIte]
  repeat' first
    | (refine Br.intro (fun _ => ?_) (fun _ => ?_) <;> try simp -dsimp -implicitDefEqProofs only [go_sem, ↓reduceIte, *])
    | (with_reducible refine And.intro ?_ ?_)
    | (refine sCallT_one (c_within _ _ _) ?_; try simp -dsimp -implicitDefEqProofs only [go_sem, ↓reduceIte, *])
  all_goals first
    | (simp_all [isMk, isIn, I64]; done)
    | (simp_all [isMk, isIn, I64]; omega)
    | trace_state
def riseAt (xs : List Int) (n : Int) (i : Nat) : Bool := decide (0 ≤ xs.getD i 0) && decide (xs.getD i 0 < n) && (i == 0 || decide (xs.getD (i - 1) 0 < xs.getD i 0))
def rises (xs : List Int) (n : Int) : Bool := (List.range xs.length).all (riseAt xs n)
theorem c_l01Rises (xs : List Int) (n : Int) (h : xs.length ≤ 9223372036854775807) : Fn Tryz.prog 108 [eIs xs, eI n] true (· = eB (rises xs n)) := by
  refine Fn.of_vcN 41 [.tmp 4] Tryz.func108 rfl rfl rfl rfl rfl (of_decide_eq_true rfl) ?_
  simp -dsimp -implicitDefEqProofs only [go_sem, ↓reduceIte]
  refine Later.up [0, 1] [8] [] xs.length (fun i => (List.range i).all (riseAt xs n)) (fun i => [(5, eI i)]) (fun _ => []) (by simp) ?_ rfl (fun i hi hI => ?_) (fun hI => ?_)
  · simp -dsimp -implicitDefEqProofs only [go_sem, ↓reduceIte]
  · have no : riseAt xs n i = false → rises xs n = false := range_all_no hi
    have yes : riseAt xs n i = true → (List.range (i + 1)).all (riseAt xs n) = true := fun h => by rw [range_all_succ, hI, h]; rfl
    have hi' : i - 1 < xs.length := by omega
    have gi := get_some hi
    have li := lt_len hi
    by_cases hi0 : 0 < i
    rotate_left
    · have g3 : decide ((i : Int) > 0) = false := by simp; omega
      simp -dsimp -implicitDefEqProofs only [pick_nil, pick_cons, look_nil, look_cons, dropB_nil, dropB_cons, inD_nil, inD_cons, inE_nil, inE_cons, or_t_l, or_f_l, Nat.reduceBEq, Nat.reduceDiv, Nat.reduceAdd, beq_self_eq_true, uq0, uq1, ↓reduceIte, Nat.reduceEqDiff, uq2, uq3]
      simp -dsimp -implicitDefEqProofs only [go_sem, ↓reduceIte, lt_len hi, get_some hi, g3]
      repeat' first
        | (refine Br.intro (fun _ => ?_) (fun _ => ?_) <;> try simp -dsimp -implicitDefEqProofs only [go_sem, ↓reduceIte, *])
        | (with_reducible refine And.intro ?_ ?_)
        | (refine Later.draw mixed rfl ?_; simp -dsimp -implicitDefEqProofs only [go_sem, ↓reduceIte, lt_len hi, get_some hi, g3])
      all_goals first
        | omega
        | (refine ⟨?_, ?_⟩ <;> omega)
        | (simp; done)
        | rfl
        | (rw [no]; clear no yes; simp_all [riseAt]; done) | (rw [no]; clear no yes; simp_all [riseAt]; omega) | (refine yes ?_; clear no yes; simp_all [riseAt]; done) | (refine yes ?_; clear no yes; simp_all [riseAt]; omega)
        | (rw [← List.range_succ]; refine yes ?_; clear no yes; simp_all [riseAt]; done)
        | (rw [← List.range_succ]; refine yes ?_; clear no yes; simp_all [riseAt]; omega)
        | (have e0 : i = 0 := by omega
           clear hi0; subst e0; first | (rw [no]; clear no yes; simp_all [riseAt]; done) | (rw [no]; clear no yes; simp_all [riseAt]; omega) | (refine yes ?_; clear no yes; simp_all [riseAt]; done) | (refine yes ?_; clear no yes; simp_all [riseAt]; omega))
        | trace_state
    · have g2 : xs[((i : Int) - 1).toNat]? = some xs[i - 1] := by rw [pred_toNat hi0]; exact get_some hi'
      have g3 : decide ((i : Int) > 0) = true := by simp; omega
      simp -dsimp -implicitDefEqProofs only [pick_nil, pick_cons, look_nil, look_cons, dropB_nil, dropB_cons, inD_nil, inD_cons, inE_nil, inE_cons, or_t_l, or_f_l, Nat.reduceBEq, Nat.reduceDiv, Nat.reduceAdd, beq_self_eq_true, uq0, uq1, ↓reduceIte, Nat.reduceEqDiff, uq2, uq3]
      simp -dsimp -implicitDefEqProofs only [go_sem, ↓reduceIte, lt_len hi, get_some hi, g2, g3]
      repeat' first
        | (refine Br.intro (fun _ => ?_) (fun _ => ?_) <;> try simp -dsimp -implicitDefEqProofs only [go_sem, ↓reduceIte, *])
        | (with_reducible refine And.intro ?_ ?_)
        | (refine Later.draw mixed rfl ?_; simp -dsimp -implicitDefEqProofs only [go_sem, ↓reduceIte, lt_len hi, get_some hi, g2, g3])
      all_goals first
        | omega
        | (refine ⟨?_, ?_⟩ <;> omega)
        | (simp; done)
        | rfl
        | (rw [no]; clear no yes; simp_all [riseAt]; done) | (rw [no]; clear no yes; simp_all [riseAt]; omega) | (refine yes ?_; clear no yes; simp_all [riseAt]; done) | (refine yes ?_; clear no yes; simp_all [riseAt]; omega)
        | (rw [← List.range_succ]; refine yes ?_; clear no yes; simp_all [riseAt]; done)
        | (rw [← List.range_succ]; refine yes ?_; clear no yes; simp_all [riseAt]; omega)
        | (have e0 : i = 0 := by omega
           clear hi0; subst e0; first | (rw [no]; clear no yes; simp_all [riseAt]; done) | (rw [no]; clear no yes; simp_all [riseAt]; omega) | (refine yes ?_; clear no yes; simp_all [riseAt]; done) | (refine yes ?_; clear no yes; simp_all [riseAt]; omega))
        | trace_state
  · simp -dsimp -implicitDefEqProofs only [pick_nil, pick_cons, look_nil, look_cons, dropB_nil, dropB_cons, inD_nil, inD_cons, inE_nil, inE_cons, or_t_l, or_f_l, Nat.reduceBEq, Nat.reduceDiv, Nat.reduceAdd, beq_self_eq_true, uq0, uq1, ↓reduceIte, Nat.reduceEqDiff, uq2, uq3]
    simp -dsimp -implicitDefEqProofs only [go_sem, ↓reduceIte, nlt_len]
    rw [rises, hI]
def has (xs : List Int) (x : Int) : Bool := !(xs.all fun y => !(y == x))
theorem c_l01Has (xs : List Int) (x : Int) (h : xs.length ≤ 1048576) : Fn Tryz.prog 94 [eIs xs, eI x] true (· = eB (has xs x)) := by
  refine Fn.of_vcN 18 [.tmp 4] Tryz.func94 rfl rfl rfl rfl rfl (of_decide_eq_true rfl) ?_
  simp -dsimp -implicitDefEqProofs only [go_sem, ↓reduceIte]
  refine Later.up [0, 1] [8] [] xs.length (fun i => (xs.take i).all (fun y => !(y == x))) (fun i => [(5, eI i)]) (fun _ => []) (by simp) ?_ rfl (fun i hi hI => ?_) (fun hI => ?_)
  · simp -dsimp -implicitDefEqProofs only [go_sem, ↓reduceIte]
  · simp -dsimp -implicitDefEqProofs only [pick_nil, pick_cons, look_nil, look_cons, dropB_nil, dropB_cons, inD_nil, inD_cons, inE_nil, inE_cons, or_t_l, or_f_l, Nat.reduceBEq, Nat.reduceDiv, Nat.reduceAdd, beq_self_eq_true, uq0, uq1, ↓reduceIte, Nat.reduceEqDiff, uq2, uq3]
    have gi := get_some hi
    have li := lt_len hi
    have no : (!(xs[i] == x)) = false → (xs.all fun y => !(y == x)) = false := fun h => by simp [has, all_no (p := fun y => !(y == x)) hi h]
    have yes : (!(xs[i] == x)) = true → ((xs.take (i + 1)).all (fun y => !(y == x))) = true := fun h => by rw [all_take _ _ _ hi, hI]; simpa using h
    simp -dsimp -implicitDefEqProofs only [go_sem, ↓reduceIte, li, gi]
    repeat' first
      | (refine Br.intro (fun _ => ?_) (fun _ => ?_) <;> try simp -dsimp -implicitDefEqProofs only [go_sem, ↓reduceIte, *])
      | (with_reducible refine And.intro ?_ ?_)
      | (refine Later.draw mixed rfl ?_; try simp -dsimp -implicitDefEqProofs only [go_sem, ↓reduceIte, *])
    all_goals first
      | omega
      | (refine ⟨?_, ?_⟩ <;> omega)
      | (simp; done)
      | rfl
      | (rw [has, no (by rw [‹(xs[i] == x) = true›]; rfl)]; rfl) | (refine yes ?_; clear no yes; simp_all; done)
      | trace_state
  · simp -dsimp -implicitDefEqProofs only [pick_nil, pick_cons, look_nil, look_cons, dropB_nil, dropB_cons, inD_nil, inD_cons, inE_nil, inE_cons, or_t_l, or_f_l, Nat.reduceBEq, Nat.reduceDiv, Nat.reduceAdd, beq_self_eq_true, uq0, uq1, ↓reduceIte, Nat.reduceEqDiff, uq2, uq3]
    simp -dsimp -implicitDefEqProofs only [go_sem, ↓reduceIte, nlt_len]
    rw [List.take_length] at hI
    first
      | (simp_all [has]; done)
      | trace_state
theorem c_Index (xs : List Int) (x : Int) (h : xs.length ≤ 1048576) : Fn Tryz.prog 172 [eIs xs, eI x] true (fun r => ∃ n : Int, r = eI n ∧ decide (n ≥ 0) = has xs x) := by
  refine Fn.of_vc 19 [.tmp 4] Tryz.func172 rfl rfl rfl rfl rfl (of_decide_eq_true rfl) ?_
  simp -dsimp -implicitDefEqProofs only [go_sem, ↓reduceIte]
  refine Later.up [0, 1, 7] [] [] xs.length (fun i => (xs.take i).all (fun y => !(y == x))) (fun i => [(8, eI i)]) (fun _ => []) (by simp) ?_ rfl (fun i hi hI => ?_) (fun hI => ?_)
  · simp -dsimp -implicitDefEqProofs only [go_sem, ↓reduceIte]
  · simp -dsimp -implicitDefEqProofs only [pick_nil, pick_cons, look_nil, look_cons, dropB_nil, dropB_cons, inD_nil, inD_cons, inE_nil, inE_cons, or_t_l, or_f_l, Nat.reduceBEq, Nat.reduceDiv, Nat.reduceAdd, beq_self_eq_true, uq0, uq1, ↓reduceIte, Nat.reduceEqDiff, uq2, uq3]
    have no : (!(xs[i] == x)) = false → has xs x = true := fun h => by simp [has, all_no (p := fun y => !(y == x)) hi h]
    have yes : (!(xs[i] == x)) = true → ((xs.take (i + 1)).all (fun y => !(y == x))) = true := fun h => by rw [all_take _ _ _ hi, hI]; simpa using h
    have gi := get_some hi
    simp -dsimp -implicitDefEqProofs only [go_sem, ↓reduceIte, lt_len hi, get_some hi]
    repeat' first
      | (refine Br.intro (fun _ => ?_) (fun _ => ?_) <;> try simp -dsimp -implicitDefEqProofs only [go_sem, ↓reduceIte, *])
      | (with_reducible refine And.intro ?_ ?_)
      | (refine Later.draw mixed rfl ?_; try simp -dsimp -implicitDefEqProofs only [go_sem, ↓reduceIte, *])
    all_goals first
      | omega
      | (refine ⟨?_, ?_⟩ <;> omega)
      | rfl
      | (refine ⟨_, rfl, ?_⟩; rw [no]; · simp
         · clear no yes; simp_all)
      | (refine yes ?_; rw [BEq.comm, ‹(x == xs[i]) = false›]; rfl)
      | trace_state
  · simp -dsimp -implicitDefEqProofs only [pick_nil, pick_cons, look_nil, look_cons, dropB_nil, dropB_cons, inD_nil, inD_cons, inE_nil, inE_cons, or_t_l, or_f_l, Nat.reduceBEq, Nat.reduceDiv, Nat.reduceAdd, beq_self_eq_true, uq0, uq1, ↓reduceIte, Nat.reduceEqDiff, uq2, uq3]
    simp -dsimp -implicitDefEqProofs only [go_sem, ↓reduceIte, nlt_len]
    rw [List.take_length] at hI
    exact ⟨_, rfl, by rw [has, hI]; rfl⟩
theorem c_Contains (xs : List Int) (x : Int) (h : xs.length ≤ 1048576) : Fn Tryz.prog 161 [eIs xs, eI x] true (· = eB (has xs x)) := by
  refine Fn.of_vcN 9 [.tmp 4] Tryz.func161 rfl rfl rfl rfl rfl (of_decide_eq_true rfl) ?_
  simp -dsimp -implicitDefEqProofs only [go_sem, ↓reduceIte]
  refine sCallT_any (c_Index xs x h) ?_
  rintro _ ⟨n, rfl, hn⟩
  simp -dsimp -implicitDefEqProofs only [go_sem, ↓reduceIte]
  rw [← hn]
end Go.Vc


set_option linter.unusedVariables false
set_option linter.unusedSimpArgs false
set_option linter.unnecessarySimpa false
namespace Go.Vc
open Go.Proofs
set_option maxRecDepth 100000
abbrev eSy (m : MkM) (t : List (List Int)) : AV := .agg [eI m.chambers, eI m.depths, eI m.step, eI m.same, eI m.least, eIss t]
def rowOk (n : Nat) (r : List Int) : Bool := (r.length == n) && decide (1 ≤ r.length) && decide (r.length ≤ 12) && r.all fun x => isIn x 0 1
def isTb (t : List (List Int)) : Bool := decide (1 ≤ t.length) && decide (t.length ≤ 10) && t.all (rowOk (t.getD 0 []).length)
theorem isTb_no {t : List (List Int)} {i : Nat} (hi : i < t.length) (h : rowOk (t.getD 0 []).length t[i] = false) : isTb t = false := by
  rw [isTb, all_no hi h]; simp
theorem isTb_num {t : List (List Int)} (h : isTb t = true) : 1 ≤ t.length ∧ t.length ≤ 10 ∧ 1 ≤ (t.getD 0 []).length ∧ (t.getD 0 []).length ≤ 12 ∧ ∀ i (hi : i < t.length), t[i].length = (t.getD 0 []).length := by
  simp only [isTb, Bool.and_eq_true, decide_eq_true_eq] at h
  have hr : ∀ i (hi : i < t.length), rowOk (t.getD 0 []).length t[i] = true := fun i hi => List.all_eq_true.1 h.2 _ (List.getElem_mem hi)
  have h0 := hr 0 (by omega)
  have e : t.getD 0 [] = t[0]'(by omega) := by simp [List.getD_eq_getElem?_getD, show 0 < t.length by omega]
  simp only [rowOk, Bool.and_eq_true, decide_eq_true_eq, beq_iff_eq] at h0 hr
  rw [← e] at h0
  exact ⟨h.1.1, h.1.2, h0.1.1.2, h0.1.2, fun i hi => (hr i hi).1.1.1⟩
theorem c_iIsTable (t : List (List Int)) (h : t.length ≤ 1048576) (h2 : ∀ x ∈ t, x.length ≤ 1048576) : Fn Tryz.prog 110 [eIss t] true (· = eB (isTb t)) := by
  refine Fn.of_vcN 42 [.tmp 2] Tryz.func110 rfl rfl rfl rfl rfl (of_decide_eq_true rfl) ?_
  simp -dsimp -implicitDefEqProofs only [go_sem, ↓reduceIte]
  refine Later.up [0, 5, 6] [12, 16, 20, 25, 30] [] t.length (fun i => (t.take i).all (rowOk (t.getD 0 []).length)) (fun i => [(7, eI i)]) (fun _ => []) (by simp) ?_ rfl (fun i hi hI => ?_) (fun hI => ?_)
  · simp -dsimp -implicitDefEqProofs only [go_sem, ↓reduceIte]
  · have h00 : 0 < t.length := by omega
    have g0 := get_some h00
    have gd : t.getD 0 [] = t[0] := by simp [List.getD_eq_getElem?_getD, h00]
    have hx := h2 t[i] (List.getElem_mem hi)
    have hx0 := h2 t[0] (List.getElem_mem h00)
    have gi := get_some hi
    have li := lt_len hi
    have no : rowOk t[0].length t[i] = false → isTb t = false := fun h => isTb_no hi (by rw [gd]; exact h)
    have yes : rowOk t[0].length t[i] = true → (t.take (i + 1)).all (rowOk (t.getD 0 []).length) = true := fun h => by rw [all_take _ _ _ hi, hI, gd, h]; rfl
    clear gd
    simp -dsimp -implicitDefEqProofs only [pick_nil, pick_cons, look_nil, look_cons, dropB_nil, dropB_cons, inD_nil, inD_cons, inE_nil, inE_cons, or_t_l, or_f_l, Nat.reduceBEq, Nat.reduceDiv, Nat.reduceAdd, beq_self_eq_true, uq0, uq1, ↓reduceIte, Nat.reduceEqDiff, uq2, uq3]
    simp -dsimp -implicitDefEqProofs only [go_sem, ↓reduceIte, li, gi, g0]
    repeat' first
      | (refine Br.intro (fun _ => ?_) (fun _ => ?_) <;> try simp -dsimp -implicitDefEqProofs only [go_sem, ↓reduceIte, *])
      | (with_reducible refine And.intro ?_ ?_)
      | (refine sCallT_one (c_allWithin t[i] 0 1 (by omega)) ?_; try simp -dsimp -implicitDefEqProofs only [go_sem, ↓reduceIte, *])
    all_goals first
      | omega
      | (refine ⟨?_, ?_⟩ <;> omega)
      | rfl
      | (simp; done)
      | (rw [no]; clear no yes; simp_all [rowOk]; done) | (rw [no]; clear no yes; simp_all [rowOk]; omega) | (refine yes ?_; clear no yes; simp_all [rowOk]; done) | (refine yes ?_; clear no yes; simp_all [rowOk]; omega)
      | trace_state
  · simp -dsimp -implicitDefEqProofs only [pick_nil, pick_cons, look_nil, look_cons, dropB_nil, dropB_cons, inD_nil, inD_cons, inE_nil, inE_cons, or_t_l, or_f_l, Nat.reduceBEq, Nat.reduceDiv, Nat.reduceAdd, beq_self_eq_true, uq0, uq1, ↓reduceIte, Nat.reduceEqDiff, uq2, uq3]
    simp -dsimp -implicitDefEqProofs only [go_sem, ↓reduceIte, nlt_len]
    rw [List.take_length] at hI
    repeat' first
      | (refine Br.intro (fun _ => ?_) (fun _ => ?_) <;> try simp -dsimp -implicitDefEqProofs only [go_sem, ↓reduceIte, *])
      | (with_reducible refine And.intro ?_ ?_)
    all_goals first
      | omega
      | (simp_all [isTb]; done)
      | (rename_i hx
         have h3 : 1 ≤ t.length := by have := of_decide_eq_true hx; omega
         have h4 : decide ((t.length : Int) ≤ 10) = decide (t.length ≤ 10) := by rw [decide_eq_decide]; omega
         rw [isTb, hI, decide_eq_true h3, h4, Bool.true_and, Bool.and_true])
      | (rename_i hx
         have h3 : ¬ 1 ≤ t.length := by have := of_decide_eq_false hx; omega
         rw [isTb, decide_eq_false h3]; rfl)
      | trace_state
theorem c_sIsTable (t : List (List Int)) (h : t.length ≤ 1048576) (h2 : ∀ x ∈ t, x.length ≤ 1048576) : Fn Tryz.prog 113 [eIss t] true (· = eB (isTb t)) := by
  refine Fn.of_vcN 52 [.tmp 2] Tryz.func113 rfl rfl rfl rfl rfl (of_decide_eq_true rfl) ?_
  simp -dsimp -implicitDefEqProofs only [go_sem, ↓reduceIte]
  repeat' first
    | (refine Br.intro (fun _ => ?_) (fun _ => ?_) <;> try simp -dsimp -implicitDefEqProofs only [go_sem, ↓reduceIte, *])
    | (with_reducible refine And.intro ?_ ?_)
    | (refine sCallT_one (c_l01In _ _ _) ?_; try simp -dsimp -implicitDefEqProofs only [go_sem, ↓reduceIte, *])
  all_goals try (first | omega | (simp_all [isTb, isIn]; omega))
  rename_i hl
  refine Later.up [0] [11, 19, 23, 30, 31, 39, 50] [] t.length (fun i => (t.take i).all (rowOk (t.getD 0 []).length)) (fun i => [(3, eI i)]) (fun _ => []) (by simp) ?_ rfl (fun i hi hI => ?_) (fun hI => ?_)
  · simp -dsimp -implicitDefEqProofs only [go_sem, ↓reduceIte]
  · have h00 : 0 < t.length := by omega
    have g0 := get_some h00
    have gd : t.getD 0 [] = t[0] := by simp [List.getD_eq_getElem?_getD, h00]
    have hx := h2 t[i] (List.getElem_mem hi)
    have hx0 := h2 t[0] (List.getElem_mem h00)
    have gi := get_some hi
    have li := lt_len hi
    have no : rowOk t[0].length t[i] = false → isTb t = false := fun h => isTb_no hi (by rw [gd]; exact h)
    have yes : rowOk t[0].length t[i] = true → (t.take (i + 1)).all (rowOk (t.getD 0 []).length) = true := fun h => by rw [all_take _ _ _ hi, hI, gd, h]; rfl
    clear gd hI
    simp -dsimp -implicitDefEqProofs only [pick_nil, pick_cons, look_nil, look_cons, dropB_nil, dropB_cons, inD_nil, inD_cons, inE_nil, inE_cons, or_t_l, or_f_l, Nat.reduceBEq, Nat.reduceDiv, Nat.reduceAdd, beq_self_eq_true, uq0, uq1, ↓reduceIte, Nat.reduceEqDiff, uq2, uq3]
    simp -dsimp -implicitDefEqProofs only [go_sem, ↓reduceIte, li, gi, g0]
    repeat' first
      | (refine Br.intro (fun _ => ?_) (fun _ => ?_) <;> try simp -dsimp -implicitDefEqProofs only [go_sem, ↓reduceIte, *])
      | (with_reducible refine And.intro ?_ ?_)
      | (refine Later.draw mixed rfl ?_; try simp -dsimp -implicitDefEqProofs only [go_sem, ↓reduceIte, *])
      | (refine sCallT_one (c_l01In _ _ _) ?_; try simp -dsimp -implicitDefEqProofs only [go_sem, ↓reduceIte, *])
      | (refine sCallX_one (c_l01In _ _ _) ?_; try simp -dsimp -implicitDefEqProofs only [go_sem, ↓reduceIte, *])
    all_goals try (first | omega | (refine ⟨?_, ?_⟩ <;> omega) | rfl | (simp; done) | (rw [no]; clear no yes; simp_all [rowOk, isIn]; done) | (rw [no]; clear no yes; simp_all [rowOk, isIn]; omega) | (refine yes ?_; clear no yes; simp_all [rowOk, isIn]; done) | (refine yes ?_; clear no yes; simp_all [rowOk, isIn]; omega))
    refine Later.up [0, 3] [39, 50] [] t[i].length (fun j => (t[i].take j).all (fun x => isIn x 0 1)) (fun j => [(4, eI j)]) (fun _ => []) (by simp) ?_ rfl (fun j hj hJ => ?_) (fun hJ => ?_)
    · simp -dsimp -implicitDefEqProofs only [go_sem, ↓reduceIte]
    · have gj := get_some hj
      have lj := lt_len hj
      have no1 : isIn t[i][j] 0 1 = false → isTb t = false := fun h => no (by rw [rowOk, all_no (p := fun x => isIn x 0 1) hj h]; simp)
      have yes1 : isIn t[i][j] 0 1 = true → (t[i].take (j + 1)).all (fun x => isIn x 0 1) = true := fun h => by rw [all_take _ _ _ hj, hJ, h]; rfl
      clear no yes
      simp -dsimp -implicitDefEqProofs only [pick_nil, pick_cons, look_nil, look_cons, dropB_nil, dropB_cons, inD_nil, inD_cons, inE_nil, inE_cons, or_t_l, or_f_l, Nat.reduceBEq, Nat.reduceDiv, Nat.reduceAdd, beq_self_eq_true, uq0, uq1, ↓reduceIte, Nat.reduceEqDiff, uq2, uq3]
      simp -dsimp -implicitDefEqProofs only [go_sem, ↓reduceIte, li, gi, gj, lj]
      repeat' first
        | (refine Br.intro (fun _ => ?_) (fun _ => ?_) <;> try simp -dsimp -implicitDefEqProofs only [go_sem, ↓reduceIte, *])
        | (with_reducible refine And.intro ?_ ?_)
        | (refine sCallT_one (c_l01In _ _ _) ?_; try simp -dsimp -implicitDefEqProofs only [go_sem, ↓reduceIte, *])
      all_goals first
        | omega
        | (refine ⟨?_, ?_⟩ <;> omega)
        | rfl
        | (simp; done)
        | (rw [no1]; clear no1 yes1; simp_all; done)
        | (refine yes1 ?_; clear no1 yes1; simp_all; done)
        | trace_state
    · simp -dsimp -implicitDefEqProofs only [pick_nil, pick_cons, look_nil, look_cons, dropB_nil, dropB_cons, inD_nil, inD_cons, inE_nil, inE_cons, or_t_l, or_f_l, Nat.reduceBEq, Nat.reduceDiv, Nat.reduceAdd, beq_self_eq_true, uq0, uq1, ↓reduceIte, Nat.reduceEqDiff, uq2, uq3]
      rw [List.take_length] at hJ
      simp -dsimp -implicitDefEqProofs only [go_sem, ↓reduceIte, li, gi, nlt_len]
      repeat' first
        | (refine Br.intro (fun _ => ?_) (fun _ => ?_) <;> try simp -dsimp -implicitDefEqProofs only [go_sem, ↓reduceIte, *])
        | (with_reducible refine And.intro ?_ ?_)
      all_goals first
        | omega
        | (refine ⟨?_, ?_⟩ <;> omega)
        | rfl
        | (simp; done)
        | (refine yes ?_; clear no yes; simp_all [rowOk, isIn]; done)
        | (refine yes ?_; clear no yes; simp_all [rowOk, isIn]; omega)
        | trace_state
  · simp -dsimp -implicitDefEqProofs only [pick_nil, pick_cons, look_nil, look_cons, dropB_nil, dropB_cons, inD_nil, inD_cons, inE_nil, inE_cons, or_t_l, or_f_l, Nat.reduceBEq, Nat.reduceDiv, Nat.reduceAdd, beq_self_eq_true, uq0, uq1, ↓reduceIte, Nat.reduceEqDiff, uq2, uq3]
    simp -dsimp -implicitDefEqProofs only [go_sem, ↓reduceIte, nlt_len]
    rw [List.take_length] at hI
    first
      | (simp_all [isTb, isIn]; done)
      | (simp_all [isTb, isIn]; omega)
      | trace_state
def doorOpen (t : List (List Int)) (k : Nat) : Bool := t.any fun r => r.getD k 0 == 1
def doorsOpen (t : List (List Int)) : Bool := (List.range (t.getD 0 []).length).all (doorOpen t)
def isSy (m : MkM) (t : List (List Int)) : Bool := isMk m && isTb t && doorsOpen t
theorem isSy_num {m : MkM} {t : List (List Int)} (h : isSy m t = true) : 1 ≤ t.length ∧ t.length ≤ 10 ∧ 1 ≤ (t.getD 0 []).length ∧ (t.getD 0 []).length ≤ 12 ∧ ∀ i (hi : i < t.length), t[i].length = (t.getD 0 []).length := by
  simp only [isSy, Bool.and_eq_true] at h
  exact isTb_num h.1.2
theorem any_take {α : Type} (p : α → Bool) (xs : List α) (i : Nat) (h : i < xs.length) : (xs.take (i + 1)).any p = ((xs.take i).any p || p xs[i]) := by
  rw [List.take_succ_eq_append_getElem h, List.any_append]; simp
def rowsOn (t : List (List Int)) (k : Nat) : List Int := flt (fun i => (t.getD i []).getD k 0 == 1) t.length
theorem rowsOn_nil (t : List (List Int)) (k : Nat) : decide (((rowsOn t k).length : Int) = 0) = !doorOpen t k := by
  have key : ∀ n, n ≤ t.length → ((flt (fun i => (t.getD i []).getD k 0 == 1) n) = [] ↔ (t.take n).any (fun r => r.getD k 0 == 1) = false) := by
    intro n
    induction n with
    | zero => intro _; simp [flt_zero]
    | succ n ih =>
      intro hn
      have h1 := ih (by omega)
      have e : t.getD n [] = t[n] := by simp [List.getD_eq_getElem?_getD, show n < t.length by omega]
      rw [flt_succ, any_take _ _ _ (show n < t.length by omega), Bool.or_eq_false_iff, ← h1, e]
      cases hc : (t[n].getD k 0 == 1) <;> simp
  have h1 := key t.length (Nat.le_refl _)
  rw [List.take_length] at h1
  have h2 : (((rowsOn t k).length : Int) = 0) ↔ rowsOn t k = [] := by rw [← List.length_eq_zero_iff]; omega
  cases hd : doorOpen t k with
  | true =>
    rw [Bool.not_true]
    refine decide_eq_false fun e => ?_
    have := h1.1 (h2.1 e)
    rw [show doorOpen t k = t.any fun r => r.getD k 0 == 1 from rfl, this] at hd; cases hd
  | false =>
    rw [Bool.not_false]
    exact decide_eq_true (h2.2 (h1.2 hd))
theorem c_rowsFor (m : MkM) (t : List (List Int)) (k : Nat) (h : t.length ≤ 1048576) (hk : ∀ i (hi : i < t.length), k < t[i].length) : Fn Tryz.prog 81 [eSy m t, eI k] true (· = eIs (rowsOn t k)) := by
  refine Fn.of_vcN 28 [.tmp 4] Tryz.func81 rfl rfl rfl rfl rfl (of_decide_eq_true rfl) ?_
  simp -dsimp -implicitDefEqProofs only [go_sem, ↓reduceIte]
  repeat' (with_reducible refine And.intro ?_ ?_)
  all_goals try omega
  refine Later.up [1, 10, 11] [24, 25] [8] t.length (fun _ => True) (fun i => [(12, eI i), (5, .ref 8 0 0 (flt (fun i => (t.getD i []).getD k 0 == 1) i).length)]) (fun i => [(8, .row 0 ⟨1, false⟩ true ((flt (fun i => (t.getD i []).getD k 0 == 1) i).map eI))]) trivial ?_ rfl (fun i hi _ => ?_) (fun _ => ?_)
  · simp -dsimp -implicitDefEqProofs only [go_sem, ↓reduceIte, flt_zero]
    all_goals simp
  · have hl := flt_len (fun i => (t.getD i []).getD k 0 == 1) i
    have hs := flt_succ (fun i => (t.getD i []).getD k 0 == 1) i
    have hki := hk i hi
    have hp : (t.getD i []).getD k 0 = t[i][k] := by simp [List.getD_eq_getElem?_getD, hi, hki]
    rw [hp] at hs
    clear hp
    have gi := get_some hi
    have gk := get_some hki
    have li := lt_len hi
    simp -dsimp -implicitDefEqProofs only [pick_nil, pick_cons, look_nil, look_cons, dropB_nil, dropB_cons, inD_nil, inD_cons, inE_nil, inE_cons, or_t_l, or_f_l, Nat.reduceBEq, Nat.reduceDiv, Nat.reduceAdd, beq_self_eq_true, uq0, uq1, ↓reduceIte, Nat.reduceEqDiff, uq2, uq3]
    rw [hs]
    clear hs
    simp -dsimp -implicitDefEqProofs only [go_sem, ↓reduceIte, li, gi, gk]
    repeat' first
      | (refine Br.intro (fun _ => ?_) (fun _ => ?_) <;> try simp -dsimp -implicitDefEqProofs only [go_sem, ↓reduceIte, *])
      | (with_reducible refine And.intro ?_ ?_)
      | (refine Later.draw mixed rfl ?_; try simp -dsimp -implicitDefEqProofs only [go_sem, ↓reduceIte, *])
    all_goals first
      | omega | (refine ⟨?_, ?_⟩ <;> omega) | (simp; done) | (simp; omega)
      | rfl
      | (simp_all; done)
      | (simp_all; omega)
      | trace_state
  · have hl := flt_len (fun i => (t.getD i []).getD k 0 == 1) t.length
    simp -dsimp -implicitDefEqProofs only [pick_nil, pick_cons, look_nil, look_cons, dropB_nil, dropB_cons, inD_nil, inD_cons, inE_nil, inE_cons, or_t_l, or_f_l, Nat.reduceBEq, Nat.reduceDiv, Nat.reduceAdd, beq_self_eq_true, uq0, uq1, ↓reduceIte, Nat.reduceEqDiff, uq2, uq3]
    simp -dsimp -implicitDefEqProofs only [go_sem, ↓reduceIte, nlt_len]
    repeat' (with_reducible refine And.intro ?_ ?_)
    all_goals first
      | omega | (refine ⟨?_, ?_⟩ <;> omega) | (simp; done) | (simp; omega)
      | rfl
      | (simp [rowsOn]; done)
      | trace_state
theorem c_iIsSystem (m : MkM) (t : List (List Int)) (h : t.length ≤ 1048576) (h2 : ∀ x ∈ t, x.length ≤ 1048576) : Fn Tryz.prog 89 [eSy m t] true (· = eB (isSy m t)) := by
  refine Fn.of_vcN 28 [.tmp 2] Tryz.func89 rfl rfl rfl rfl rfl (of_decide_eq_true rfl) ?_
  rcases hb : (isMk m && isTb t) with _ | _
  · simp -dsimp -implicitDefEqProofs only [go_sem, ↓reduceIte]
    repeat' first
      | (refine Br.intro (fun _ => ?_) (fun _ => ?_) <;> try simp -dsimp -implicitDefEqProofs only [go_sem, ↓reduceIte, *])
      | (with_reducible refine And.intro ?_ ?_)
      | (refine sCallT_one (c_iIsMaker m) ?_; try simp -dsimp -implicitDefEqProofs only [go_sem, ↓reduceIte, *])
      | (refine sCallT_one (c_iIsTable t h h2) ?_; try simp -dsimp -implicitDefEqProofs only [go_sem, ↓reduceIte, *])
    all_goals first
      | omega
      | (simp_all [isSy]; done)
      | trace_state
  obtain ⟨hb1, hb2⟩ := Bool.and_eq_true_iff.1 hb
  obtain ⟨n1, n2, n3, n4, n5⟩ := isTb_num hb2
  have h00 : 0 < t.length := by omega
  have g0 := get_some h00
  have gd : t.getD 0 [] = t[0] := by simp [List.getD_eq_getElem?_getD, h00]
  rw [gd] at n3 n4 n5
  simp -dsimp -implicitDefEqProofs only [go_sem, ↓reduceIte, g0]
  repeat' first
    | (refine Br.intro (fun _ => ?_) (fun _ => ?_) <;> try simp -dsimp -implicitDefEqProofs only [go_sem, ↓reduceIte, *])
    | (with_reducible refine And.intro ?_ ?_)
    | (refine sCallT_one (c_iIsMaker m) ?_; try simp -dsimp -implicitDefEqProofs only [go_sem, ↓reduceIte, *])
    | (refine sCallT_one (c_iIsTable t h h2) ?_; try simp -dsimp -implicitDefEqProofs only [go_sem, ↓reduceIte, *])
  all_goals try (first | omega | (simp_all; done))
  refine Later.up [1, 18] [24, 25] [] t[0].length (fun i => (List.range i).all (doorOpen t)) (fun i => [(19, eI i)]) (fun _ => []) (by simp) ?_ rfl (fun i hi hI => ?_) (fun hI => ?_)
  · simp -dsimp -implicitDefEqProofs only [go_sem, ↓reduceIte, g0]
  · have no : doorOpen t i = false → isSy m t = false := fun h => by
      have : doorsOpen t = false := by rw [doorsOpen, gd]; exact range_all_no hi h
      simp [isSy, this]
    have yes : doorOpen t i = true → (List.range (i + 1)).all (doorOpen t) = true := fun h => by rw [range_all_succ, hI, h]; rfl
    have hr := rowsOn_nil t i
    clear hI gd
    simp -dsimp -implicitDefEqProofs only [pick_nil, pick_cons, look_nil, look_cons, dropB_nil, dropB_cons, inD_nil, inD_cons, inE_nil, inE_cons, or_t_l, or_f_l, Nat.reduceBEq, Nat.reduceDiv, Nat.reduceAdd, beq_self_eq_true, uq0, uq1, ↓reduceIte, Nat.reduceEqDiff, uq2, uq3]
    simp -dsimp -implicitDefEqProofs only [go_sem, ↓reduceIte, lt_len hi, hr]
    repeat' first
      | (refine Br.intro (fun _ => ?_) (fun _ => ?_) <;> try simp -dsimp -implicitDefEqProofs only [go_sem, ↓reduceIte, *])
      | (with_reducible refine And.intro ?_ ?_)
      | (refine sCallT_one (c_rowsFor m t i h (fun j hj => by rw [n5 j hj]; exact hi)) ?_; try simp -dsimp -implicitDefEqProofs only [go_sem, ↓reduceIte, lt_len hi, hr])
    all_goals first
      | omega
      | (refine ⟨?_, ?_⟩ <;> omega)
      | rfl
      | (simp; done)
      | (rw [no]; clear no yes; simp_all; done)
      | (rw [← List.range_succ]; refine yes ?_; clear no yes; simp_all; done)
      | trace_state
  · simp -dsimp -implicitDefEqProofs only [pick_nil, pick_cons, look_nil, look_cons, dropB_nil, dropB_cons, inD_nil, inD_cons, inE_nil, inE_cons, or_t_l, or_f_l, Nat.reduceBEq, Nat.reduceDiv, Nat.reduceAdd, beq_self_eq_true, uq0, uq1, ↓reduceIte, Nat.reduceEqDiff, uq2, uq3]
    simp -dsimp -implicitDefEqProofs only [go_sem, ↓reduceIte, nlt_len]
    first
      | (rw [isSy, hb1, hb2, doorsOpen, gd, hI]; rfl)
      | trace_state
theorem c_sIsSystem (m : MkM) (t : List (List Int)) (h : t.length ≤ 1048576) (h2 : ∀ x ∈ t, x.length ≤ 1048576) : Fn Tryz.prog 91 [eSy m t] true (· = eB (isSy m t)) := by
  refine Fn.of_vcN 46 [.tmp 2] Tryz.func91 rfl rfl rfl rfl rfl (of_decide_eq_true rfl) ?_
  rcases hb : (isMk m && isTb t) with _ | _
  · simp -dsimp -implicitDefEqProofs only [go_sem, ↓reduceIte]
    repeat' first
      | (refine Br.intro (fun _ => ?_) (fun _ => ?_) <;> try simp -dsimp -implicitDefEqProofs only [go_sem, ↓reduceIte, *])
      | (with_reducible refine And.intro ?_ ?_)
      | (refine sCallT_one (c_sIsMaker m) ?_; try simp -dsimp -implicitDefEqProofs only [go_sem, ↓reduceIte, *])
      | (refine sCallT_one (c_sIsTable t h h2) ?_; try simp -dsimp -implicitDefEqProofs only [go_sem, ↓reduceIte, *])
    all_goals first
      | omega
      | (simp_all [isSy]; done)
      | trace_state
  obtain ⟨hb1, hb2⟩ := Bool.and_eq_true_iff.1 hb
  obtain ⟨n1, n2, n3, n4, n5⟩ := isTb_num hb2
  have h00 : 0 < t.length := by omega
  have g0 := get_some h00
  have gd : t.getD 0 [] = t[0] := by simp [List.getD_eq_getElem?_getD, h00]
  rw [gd] at n3 n4 n5
  simp -dsimp -implicitDefEqProofs only [go_sem, ↓reduceIte, g0]
  repeat' first
    | (refine Br.intro (fun _ => ?_) (fun _ => ?_) <;> try simp -dsimp -implicitDefEqProofs only [go_sem, ↓reduceIte, *])
    | (with_reducible refine And.intro ?_ ?_)
    | (refine sCallT_one (c_sIsMaker m) ?_; try simp -dsimp -implicitDefEqProofs only [go_sem, ↓reduceIte, *])
    | (refine sCallT_one (c_sIsTable t h h2) ?_; try simp -dsimp -implicitDefEqProofs only [go_sem, ↓reduceIte, *])
  all_goals try (first | omega | (simp_all; done))
  refine Later.up [1] [21, 28] [] t[0].length (fun i => (List.range i).all (doorOpen t)) (fun i => [(3, eI i)]) (fun _ => []) (by simp) ?_ rfl (fun i hi hI => ?_) (fun hI => ?_)
  · simp -dsimp -implicitDefEqProofs only [go_sem, ↓reduceIte, g0]
  · have no : doorOpen t i = false → isSy m t = false := fun h => by
      have : doorsOpen t = false := by rw [doorsOpen, gd]; exact range_all_no hi h
      simp [isSy, this]
    have yes : doorOpen t i = true → (List.range (i + 1)).all (doorOpen t) = true := fun h => by rw [range_all_succ, hI, h]; rfl
    clear hI gd
    simp -dsimp -implicitDefEqProofs only [pick_nil, pick_cons, look_nil, look_cons, dropB_nil, dropB_cons, inD_nil, inD_cons, inE_nil, inE_cons, or_t_l, or_f_l, Nat.reduceBEq, Nat.reduceDiv, Nat.reduceAdd, beq_self_eq_true, uq0, uq1, ↓reduceIte, Nat.reduceEqDiff, uq2, uq3]
    simp -dsimp -implicitDefEqProofs only [go_sem, ↓reduceIte, lt_len hi, g0]
    repeat' first
      | (refine Br.intro (fun _ => ?_) (fun _ => ?_) <;> try simp -dsimp -implicitDefEqProofs only [go_sem, ↓reduceIte, *])
      | (with_reducible refine And.intro ?_ ?_)
    all_goals try (first | omega | rfl | (simp; done))
    refine Later.up [1, 3] [28] [] t.length (fun _ => True) (fun j => [(5, eI j), (4, eB ((t.take j).any fun r => r.getD i 0 == 1))]) (fun _ => []) trivial ?_ rfl (fun j hj _ => ?_) (fun _ => ?_)
    · simp -dsimp -implicitDefEqProofs only [go_sem, ↓reduceIte, List.take_zero, List.any_nil]
    · have gj := get_some hj
      have lj := lt_len hj
      have hij : i < t[j].length := by rw [n5 j hj]; exact hi
      have gij := get_some hij
      have ha := any_take (fun r => r.getD i 0 == 1) t j hj
      have he : t[j].getD i 0 = t[j][i] := by simp [List.getD_eq_getElem?_getD, hij]
      rw [he] at ha
      clear he no yes
      simp -dsimp -implicitDefEqProofs only [pick_nil, pick_cons, look_nil, look_cons, dropB_nil, dropB_cons, inD_nil, inD_cons, inE_nil, inE_cons, or_t_l, or_f_l, Nat.reduceBEq, Nat.reduceDiv, Nat.reduceAdd, beq_self_eq_true, uq0, uq1, ↓reduceIte, Nat.reduceEqDiff, uq2, uq3]
      rw [ha]
      clear ha
      simp -dsimp -implicitDefEqProofs only [go_sem, ↓reduceIte, gj, lj, gij]
      repeat' first
        | (refine Br.intro (fun _ => ?_) (fun _ => ?_) <;> try simp -dsimp -implicitDefEqProofs only [go_sem, ↓reduceIte, *])
        | (with_reducible refine And.intro ?_ ?_)
        | (refine Later.draw mixed rfl ?_; try simp -dsimp -implicitDefEqProofs only [go_sem, ↓reduceIte, *])
      all_goals first
        | omega
        | (refine ⟨?_, ?_⟩ <;> omega)
        | rfl
        | (simp; done)
        | (simp_all; done)
        | trace_state
    · simp -dsimp -implicitDefEqProofs only [pick_nil, pick_cons, look_nil, look_cons, dropB_nil, dropB_cons, inD_nil, inD_cons, inE_nil, inE_cons, or_t_l, or_f_l, Nat.reduceBEq, Nat.reduceDiv, Nat.reduceAdd, beq_self_eq_true, uq0, uq1, ↓reduceIte, Nat.reduceEqDiff, uq2, uq3]
      simp -dsimp -implicitDefEqProofs only [go_sem, ↓reduceIte, nlt_len]
      rw [List.take_length]
      have hd : (t.any fun r => r.getD i 0 == 1) = doorOpen t i := rfl
      rw [hd]
      repeat' first
        | (refine Br.intro (fun _ => ?_) (fun _ => ?_) <;> try simp -dsimp -implicitDefEqProofs only [go_sem, ↓reduceIte, *])
        | (with_reducible refine And.intro ?_ ?_)
      all_goals first
        | omega
        | (refine ⟨?_, ?_⟩ <;> omega)
        | rfl
        | (simp; done)
        | (rw [no]; clear no yes; simp_all; done)
        | (rw [← List.range_succ]; refine yes ?_; clear no yes; simp_all; done)
        | trace_state
  · simp -dsimp -implicitDefEqProofs only [pick_nil, pick_cons, look_nil, look_cons, dropB_nil, dropB_cons, inD_nil, inD_cons, inE_nil, inE_cons, or_t_l, or_f_l, Nat.reduceBEq, Nat.reduceDiv, Nat.reduceAdd, beq_self_eq_true, uq0, uq1, ↓reduceIte, Nat.reduceEqDiff, uq2, uq3]
    simp -dsimp -implicitDefEqProofs only [go_sem, ↓reduceIte, nlt_len, g0]
    repeat' (with_reducible refine And.intro ?_ ?_)
    all_goals first
      | omega
      | (rw [isSy, hb1, hb2, doorsOpen, gd, hI]; rfl)
      | trace_state
end Go.Vc


set_option linter.unusedVariables false
set_option linter.unusedSimpArgs false
set_option linter.unnecessarySimpa false
namespace Go.Vc
open Go.Proofs
set_option maxRecDepth 100000
structure ItM where
  key : Bool
  index : Int
  copies : Int
  deriving DecidableEq, Inhabited
abbrev eIt (x : ItM) : AV := .agg [eB x.key, eI x.index, eI x.copies]
abbrev eIts (xs : List ItM) : AV := .arr ⟨3, true⟩ (xs.map eIt)
def itOk (d n : Nat) (x : ItM) : Bool := isIn x.index 0 ((if x.key then (n : Int) else d) - 1) && isIn x.copies 1 50
def isOrd (t : List (List Int)) (os : List ItM) : Bool := os.all (itOk (t.getD 0 []).length t.length) && decide (os.length ≤ 20)
theorem isOrd_no {t : List (List Int)} {os : List ItM} {i : Nat} (hi : i < os.length) (h : itOk (t.getD 0 []).length t.length os[i] = false) : isOrd t os = false := by
  rw [isOrd, all_no hi h]; simp
def ordCode (m : MkM) (t : List (List Int)) (os : List ItM) : Int := if isSy m t then (if isOrd t os then 0 else 2) else 1
theorem le20 (n : Nat) : decide ((n : Int) ≤ 20) = decide (n ≤ 20) := by rw [decide_eq_decide]; omega
theorem c_iisOrder (m : MkM) (t : List (List Int)) (os : List ItM) (h0 : 0 < t.length) (h : t.length ≤ 1048576) (h2 : ∀ x ∈ t, x.length ≤ 1048576) (h3 : os.length ≤ 2097152) : Fn Tryz.prog 61 [eSy m t, eIts os] true (· = eB (isOrd t os)) := by
  refine Fn.of_vcN 40 [.tmp 4] Tryz.func61 rfl rfl rfl rfl rfl (of_decide_eq_true rfl) ?_
  have g0 := get_some h0
  have gd : t.getD 0 [] = t[0] := by simp [List.getD_eq_getElem?_getD, h0]
  have hx0 := h2 t[0] (List.getElem_mem h0)
  simp -dsimp -implicitDefEqProofs only [go_sem, ↓reduceIte]
  refine Later.up [1, 2, 8, 9] [6, 18, 23, 28, 33] [] os.length (fun i => (os.take i).all (itOk t[0].length t.length)) (fun i => [(10, eI i)]) (fun _ => []) (by simp) ?_ rfl (fun i hi hI => ?_) (fun hI => ?_)
  · simp -dsimp -implicitDefEqProofs only [go_sem, ↓reduceIte]
  · have gi := get_some hi
    have li := lt_len hi
    have no : itOk t[0].length t.length os[i] = false → isOrd t os = false := fun h => isOrd_no hi (by rw [gd]; exact h)
    have yes : itOk t[0].length t.length os[i] = true → (os.take (i + 1)).all (itOk t[0].length t.length) = true := fun h => by rw [all_take _ _ _ hi, hI, h]; rfl
    clear gd hI
    simp -dsimp -implicitDefEqProofs only [pick_nil, pick_cons, look_nil, look_cons, dropB_nil, dropB_cons, inD_nil, inD_cons, inE_nil, inE_cons, or_t_l, or_f_l, Nat.reduceBEq, Nat.reduceDiv, Nat.reduceAdd, beq_self_eq_true, uq0, uq1, ↓reduceIte, Nat.reduceEqDiff, uq2, uq3]
    simp -dsimp -implicitDefEqProofs only [go_sem, ↓reduceIte, li, gi, g0]
    repeat' first
      | (refine Br.intro (fun _ => ?_) (fun _ => ?_) <;> try simp -dsimp -implicitDefEqProofs only [go_sem, ↓reduceIte, *])
      | (with_reducible refine And.intro ?_ ?_)
      | (refine sCallT_one (c_within _ _ _) ?_; try simp -dsimp -implicitDefEqProofs only [go_sem, ↓reduceIte, *])
    all_goals first
      | omega
      | (refine ⟨?_, ?_⟩ <;> omega)
      | rfl
      | (simp; done)
      | (rw [no]; clear no yes; simp_all [itOk, isIn]; done) | (rw [no]; clear no yes; simp_all [itOk, isIn]; omega) | (refine yes ?_; clear no yes; simp_all [itOk, isIn]; done) | (refine yes ?_; clear no yes; simp_all [itOk, isIn]; omega)
      | trace_state
  · simp -dsimp -implicitDefEqProofs only [pick_nil, pick_cons, look_nil, look_cons, dropB_nil, dropB_cons, inD_nil, inD_cons, inE_nil, inE_cons, or_t_l, or_f_l, Nat.reduceBEq, Nat.reduceDiv, Nat.reduceAdd, beq_self_eq_true, uq0, uq1, ↓reduceIte, Nat.reduceEqDiff, uq2, uq3]
    simp -dsimp -implicitDefEqProofs only [go_sem, ↓reduceIte, nlt_len]
    rw [List.take_length] at hI
    repeat' (with_reducible refine And.intro ?_ ?_)
    all_goals first
      | omega
      | (rw [isOrd, gd, hI, le20]; rfl)
      | trace_state
theorem c_l29Valid (m : MkM) (t : List (List Int)) (os : List ItM) (h0 : 0 < t.length) (h : t.length ≤ 1048576) (h2 : ∀ x ∈ t, x.length ≤ 1048576) (h3 : os.length ≤ 2097152) : Fn Tryz.prog 69 [eSy m t, eIts os] true (· = eB (isOrd t os)) := by
  refine Fn.of_vcN 47 [.tmp 4] Tryz.func69 rfl rfl rfl rfl rfl (of_decide_eq_true rfl) ?_
  have g0 := get_some h0
  have gd : t.getD 0 [] = t[0] := by simp [List.getD_eq_getElem?_getD, h0]
  have hx0 := h2 t[0] (List.getElem_mem h0)
  simp -dsimp -implicitDefEqProofs only [go_sem, ↓reduceIte]
  refine Later.up [1, 2] [9, 17, 25, 33, 41] [] os.length (fun i => (os.take i).all (itOk t[0].length t.length)) (fun i => [(5, eI i)]) (fun _ => []) (by simp) ?_ rfl (fun i hi hI => ?_) (fun hI => ?_)
  · simp -dsimp -implicitDefEqProofs only [go_sem, ↓reduceIte]
  · have gi := get_some hi
    have li := lt_len hi
    have no : itOk t[0].length t.length os[i] = false → isOrd t os = false := fun h => isOrd_no hi (by rw [gd]; exact h)
    have yes : itOk t[0].length t.length os[i] = true → (os.take (i + 1)).all (itOk t[0].length t.length) = true := fun h => by rw [all_take _ _ _ hi, hI, h]; rfl
    clear gd hI
    simp -dsimp -implicitDefEqProofs only [pick_nil, pick_cons, look_nil, look_cons, dropB_nil, dropB_cons, inD_nil, inD_cons, inE_nil, inE_cons, or_t_l, or_f_l, Nat.reduceBEq, Nat.reduceDiv, Nat.reduceAdd, beq_self_eq_true, uq0, uq1, ↓reduceIte, Nat.reduceEqDiff, uq2, uq3]
    simp -dsimp -implicitDefEqProofs only [go_sem, ↓reduceIte, li, gi, g0]
    repeat' first
      | (refine Br.intro (fun _ => ?_) (fun _ => ?_) <;> try simp -dsimp -implicitDefEqProofs only [go_sem, ↓reduceIte, *])
      | (with_reducible refine And.intro ?_ ?_)
      | (refine sCallT_one (c_l01In _ _ _) ?_; try simp -dsimp -implicitDefEqProofs only [go_sem, ↓reduceIte, *])
    all_goals first
      | omega
      | (refine ⟨?_, ?_⟩ <;> omega)
      | rfl
      | (simp; done)
      | (rw [no]; clear no yes; simp_all [itOk, isIn]; done) | (rw [no]; clear no yes; simp_all [itOk, isIn]; omega) | (refine yes ?_; clear no yes; simp_all [itOk, isIn]; done) | (refine yes ?_; clear no yes; simp_all [itOk, isIn]; omega)
      | trace_state
  · simp -dsimp -implicitDefEqProofs only [pick_nil, pick_cons, look_nil, look_cons, dropB_nil, dropB_cons, inD_nil, inD_cons, inE_nil, inE_cons, or_t_l, or_f_l, Nat.reduceBEq, Nat.reduceDiv, Nat.reduceAdd, beq_self_eq_true, uq0, uq1, ↓reduceIte, Nat.reduceEqDiff, uq2, uq3]
    simp -dsimp -implicitDefEqProofs only [go_sem, ↓reduceIte, nlt_len]
    rw [List.take_length] at hI
    repeat' (with_reducible refine And.intro ?_ ?_)
    all_goals first
      | omega
      | (rw [isOrd, gd, hI, le20]; rfl)
      | trace_state
theorem c_orderCode (m : MkM) (t : List (List Int)) (os : List ItM) (h : t.length ≤ 1048576) (h2 : ∀ x ∈ t, x.length ≤ 1048576) (h3 : os.length ≤ 1048576) : Fn Tryz.prog 57 [eSy m t, eIts os] true (· = eI (ordCode m t os)) := by
  refine Fn.of_vcN 12 [.tmp 4] Tryz.func57 rfl rfl rfl rfl rfl (of_decide_eq_true rfl) ?_
  rcases hb : isSy m t with _ | _
  · simp -dsimp -implicitDefEqProofs only [go_sem, ↓reduceIte]
    repeat' first
      | (refine Br.intro (fun _ => ?_) (fun _ => ?_) <;> try simp -dsimp -implicitDefEqProofs only [go_sem, ↓reduceIte, *])
      | (with_reducible refine And.intro ?_ ?_)
      | (refine sCallT_one (c_iIsSystem m t h h2) ?_; try simp -dsimp -implicitDefEqProofs only [go_sem, ↓reduceIte, *])
    all_goals first
      | omega
      | (simp_all [ordCode]; done)
      | trace_state
  have h0 : 0 < t.length := (isSy_num hb).1
  simp -dsimp -implicitDefEqProofs only [go_sem, ↓reduceIte]
  repeat' first
    | (refine Br.intro (fun _ => ?_) (fun _ => ?_) <;> try simp -dsimp -implicitDefEqProofs only [go_sem, ↓reduceIte, *])
    | (with_reducible refine And.intro ?_ ?_)
    | (refine sCallT_one (c_iIsSystem m t h h2) ?_; try simp -dsimp -implicitDefEqProofs only [go_sem, ↓reduceIte, *])
    | (refine sCallT_one (c_iisOrder m t os h0 h h2 (by omega)) ?_; try simp -dsimp -implicitDefEqProofs only [go_sem, ↓reduceIte, *])
  all_goals first
    | omega
    | (simp_all [ordCode]; done)
    | trace_state
end Go.Vc


set_option linter.unusedVariables false
set_option linter.unusedSimpArgs false
set_option linter.unnecessarySimpa false
namespace Go.Vc
open Go.Proofs
set_option maxRecDepth 100000
theorem dec_Int64S : Dec Tryz.prog 31 (fun xs : List Int => xs.length ≤ maxLen ∧ ∀ a ∈ xs, I64 a) (fun xs => [eIs xs]) :=
  Dec.slice false 1 Tryz.underlying31 (by kernel_rfl) (by decide) (fun _ => rfl) (fun _ => rfl) (Dec.i64 Tryz.underlying2)
theorem dec_Int64SS : Dec Tryz.prog 24 (fun xs : List (List Int) => xs.length ≤ maxLen ∧ ∀ x ∈ xs, x.length ≤ maxLen ∧ ∀ a ∈ x, I64 a) (fun xs => [eIss xs]) :=
  Dec.slice false 1 Tryz.underlying24 (by kernel_rfl) (by decide) (fun _ => rfl) (fun _ => rfl) dec_Int64S
theorem dec_Maker : Dec Tryz.prog 23 (fun m : MkM => I64 m.chambers ∧ I64 m.depths ∧ I64 m.step ∧ I64 m.same ∧ I64 m.least) (fun m => [eI m.chambers, eI m.depths, eI m.step, eI m.same, eI m.least]) :=
  (Dec.struct Tryz.underlying23 (n := 5) (by kernel_rfl) (.cons rfl (n := 1) (by kernel_rfl) (fun _ => rfl) (Dec.i64 Tryz.underlying2) (.cons rfl (n := 1) (by kernel_rfl) (fun _ => rfl) (Dec.i64 Tryz.underlying2)
    (.cons rfl (n := 1) (by kernel_rfl) (fun _ => rfl) (Dec.i64 Tryz.underlying2) (.cons rfl (n := 1) (by kernel_rfl) (fun _ => rfl) (Dec.i64 Tryz.underlying2) (.cons rfl (n := 1) (by kernel_rfl) (fun _ => rfl) (Dec.i64 Tryz.underlying2) (.nil _)))))) (fun _ => rfl)).map
    fun p h => ⟨⟨p.1, p.2.1, p.2.2.1, p.2.2.2.1, p.2.2.2.2.1⟩, ⟨h.1, h.2.1, h.2.2.1, h.2.2.2.1, h.2.2.2.2.1⟩, rfl⟩
theorem dec_System : Dec Tryz.prog 26 (fun s : MkM × List (List Int) => (I64 s.1.chambers ∧ I64 s.1.depths ∧ I64 s.1.step ∧ I64 s.1.same ∧ I64 s.1.least) ∧ s.2.length ≤ maxLen ∧ ∀ x ∈ s.2, x.length ≤ maxLen ∧ ∀ a ∈ x, I64 a)
    (fun s => [eI s.1.chambers, eI s.1.depths, eI s.1.step, eI s.1.same, eI s.1.least, eIss s.2]) :=
  (Dec.struct Tryz.underlying26 (n := 6) (by kernel_rfl) (.cons rfl (n := 5) (by kernel_rfl) (fun _ => rfl) dec_Maker (.cons rfl (n := 1) (by kernel_rfl) (fun _ => rfl) dec_Int64SS (.nil _))) (fun _ => rfl)).map
    fun p h => ⟨(p.1, p.2.1), ⟨h.1, h.2.1⟩, rfl⟩
theorem dec_Item : Dec Tryz.prog 68 (fun x : ItM => I64 x.index ∧ I64 x.copies) (fun x => [eB x.key, eI x.index, eI x.copies]) :=
  (Dec.struct Tryz.underlying68 (n := 3) (by kernel_rfl) (.cons rfl (n := 1) (by kernel_rfl) (fun _ => rfl) (Dec.bool Tryz.underlying4) (.cons rfl (n := 1) (by kernel_rfl) (fun _ => rfl) (Dec.i64 Tryz.underlying2)
    (.cons rfl (n := 1) (by kernel_rfl) (fun _ => rfl) (Dec.i64 Tryz.underlying2) (.nil _)))) (fun _ => rfl)).map
    fun p h => ⟨⟨p.1, p.2.1, p.2.2.1⟩, ⟨h.2.1, h.2.2.1⟩, rfl⟩
theorem dec_ItemS : Dec Tryz.prog 27 (fun xs : List ItM => xs.length ≤ maxLen ∧ ∀ a ∈ xs, I64 a.index ∧ I64 a.copies) (fun xs => [eIts xs]) :=
  Dec.slice true 3 Tryz.underlying27 (by kernel_rfl) (by decide) (fun h => by cases h) (fun _ => rfl) dec_Item
end Go.Vc


set_option linter.unusedVariables false
set_option linter.unusedSimpArgs false
set_option linter.unnecessarySimpa false
namespace Go.Vc
open Go.Proofs
def Sub (x y : AV) : Prop := ∀ (w : World) (S : Nat → Prop) (v : Value), Rd w S x v → Rd w S y v
inductive SubL : List AV → List AV → Prop
  | nil : SubL [] []
  | cons {x y : AV} {xs ys : List AV} (h : Sub x y) (hs : SubL xs ys) : SubL (x :: xs) (y :: ys)
theorem Sub.refl (x : AV) : Sub x x := fun _ _ _ h => h
theorem Sub.nil (sh : Sh) : Sub (.val (.slice none 0 0)) (.arr sh []) := fun _ _ _ h => by cases h; exact .nil sh none
theorem SubL.get {xs ys : List AV} (h : SubL xs ys) : xs.length = ys.length ∧ ∀ i (h1 : i < xs.length) (h2 : i < ys.length), Sub xs[i] ys[i] := by
  induction h with
  | nil => exact ⟨rfl, fun i h1 => absurd h1 (Nat.not_lt_zero _)⟩
  | cons h hs ih =>
    refine ⟨by simp [ih.1], fun i h1 h2 => ?_⟩
    cases i with
    | zero => exact h
    | succ i => exact ih.2 i (by simpa using h1) (by simpa using h2)
theorem Fn.subs {P : Program} {f : FuncId} {args args' : List AV} {own : Bool} {post : AV → Prop} (h : Fn P f args own post) (hs : SubL args' args) : Fn P f args' own post :=
  ⟨h.1, fun w S vs h1 h0 h2 h3 => h.2 w S vs h1 h0 (h2.trans hs.get.1) fun i hi => hs.get.2 i (by rw [hs.get.1]; exact hi) hi _ _ _ (h3 i _)⟩
abbrev eNil : AV := .val (.slice none 0 0)
end Go.Vc


set_option linter.unusedVariables false
set_option linter.unusedSimpArgs false
set_option linter.unnecessarySimpa false
namespace Go.Vc
def rowsL (xs : List Int) : List Int := Lib.compact (xs.mergeSort fun x y => decide (x ≤ y))
theorem mem_compact (zs : List Int) (x : Int) : x ∈ Lib.compact zs ↔ x ∈ zs := by
  unfold Lib.compact Lib.compactUpTo
  have gi : ∀ i, i < zs.length → zs.toArray[i]! = zs.getD i 0 := fun i hi => by simp [List.getD_eq_getElem?_getD, hi]
  constructor
  · intro h
    obtain ⟨j, hj, rfl⟩ := List.mem_map.1 h
    have hj' := List.mem_range.1 (List.mem_filter.1 hj).1
    simp [hj']
  · intro h
    obtain ⟨j, hj, rfl⟩ := List.getElem_of_mem h
    induction j with
    | zero => exact List.mem_map.2 ⟨0, List.mem_filter.2 ⟨List.mem_range.2 hj, by simp [Lib.keeps]⟩, by simp [hj]⟩
    | succ j ih =>
      by_cases e : zs[j + 1] = zs[j]
      · rw [e]; exact ih (by omega) (List.getElem_mem _)
      · refine List.mem_map.2 ⟨j + 1, List.mem_filter.2 ⟨List.mem_range.2 hj, ?_⟩, by simp [hj]⟩
        have h1 : j < zs.length := by omega
        simp [Lib.keeps, hj, h1, e]
theorem compact_pair (zs : List Int) (h : zs.Pairwise (· ≤ ·)) : (Lib.compact zs).Pairwise (· < ·) := by
  unfold Lib.compact Lib.compactUpTo
  rw [List.pairwise_map]
  have hs := List.pairwise_iff_getElem.1 h
  refine List.Pairwise.imp_of_mem ?_ ((List.pairwise_lt_range (n := zs.length)).filter (Lib.keeps zs.toArray))
  intro i j hi hj hij
  have hj' := List.mem_range.1 (List.mem_filter.1 hj).1
  have hk := (List.mem_filter.1 hj).2
  have hi' : i < zs.length := by omega
  have hp : j - 1 < zs.length := by omega
  have h1 : zs[i] ≤ zs[j - 1] := by
    rcases Nat.lt_or_ge i (j - 1) with hh | hh
    · exact hs i (j - 1) _ _ hh
    · have : i = j - 1 := by omega
      subst this; exact Int.le_refl _
  have h2 := hs (j - 1) j hp hj' (by omega)
  have h3 : zs[j] ≠ zs[j - 1] := by
    have : j ≠ 0 := by omega
    simpa [Lib.keeps, this, hj', hp] using hk
  have e1 : zs.toArray[i]! = zs[i] := by simp [hi']
  have e2 : zs.toArray[j]! = zs[j] := by simp [hj']
  rw [e1, e2]; omega
theorem sort_pair (xs : List Int) : (xs.mergeSort fun x y => decide (x ≤ y)).Pairwise (· ≤ ·) := by
  have := List.pairwise_mergeSort (le := fun x y : Int => decide (x ≤ y)) (by intro a b c h1 h2; simp at *; omega) (by intro a b; simp; omega) xs
  exact this.imp fun h => by simpa using h
theorem mem_sort (xs : List Int) (x : Int) : x ∈ (xs.mergeSort fun x y => decide (x ≤ y)) ↔ x ∈ xs := List.mem_mergeSort
theorem rowsL_mem (xs : List Int) (x : Int) : x ∈ rowsL xs ↔ x ∈ xs := by rw [rowsL, mem_compact, mem_sort]
theorem rowsL_pair (xs : List Int) : (rowsL xs).Pairwise (· < ·) := compact_pair _ (sort_pair xs)
theorem rowsL_eq (xs : List Int) : rowsL xs = Lib.compact (xs.mergeSort fun x y => decide (x ≤ y)) := rfl
attribute [irreducible] rowsL
end Go.Vc


set_option linter.unusedVariables false
set_option linter.unusedSimpArgs false
set_option linter.unnecessarySimpa false
namespace Go.Vc
open Go.Proofs
set_option maxRecDepth 100000
def lockSet (m : MkM) (xs : List Int) : Bool := decide (xs.length ≠ 0) && rises xs m.depths
def isLk0 (m : MkM) (l : List (List Int)) : Bool := ((l.length : Int) == m.chambers) && l.all (lockSet m)
end Go.Vc


set_option linter.unusedVariables false
set_option linter.unusedSimpArgs false
set_option linter.unnecessarySimpa false
namespace Go.Vc
open Go.Proofs
set_option maxRecDepth 100000
theorem c_SortI (v : Nat) (zs : List Int) (h : zs.length ≤ 1048576) : FnM Tryz.prog 103 [.row v ⟨1, false⟩ true (zs.map eI)] [.ref 1000000000 v 0 zs.length] (fun r io => r = .tup [] ∧ io = [.row v ⟨1, false⟩ true ((zs.mergeSort fun x y => decide (x ≤ y)).map eI)]) :=
  FnM.sortRow ⟨_, _, Tryz.func103, by rfl, rfl⟩ (fun zs => zs.mergeSort fun x y => decide (x ≤ y)) (fun zs => List.length_mergeSort zs)
    (fun blk cap zs w hH hb hs => AnyG.slices_Sort_int Tryz.laySort blk 0 cap zs w hH hb hs) (fun a w => AnyG.slices_Sort_int_none Tryz.laySort a 0 w) v zs h
theorem compact_len (zs : List Int) : (Lib.compact zs).length ≤ zs.length := by
  unfold Lib.compact Lib.compactUpTo
  rw [List.length_map]
  exact Nat.le_trans (List.length_filter_le _ _) (by simp)
theorem s_CompactI {d l ver n : Nat} {zs : List Int} {xt : List AV} {m : Mem} {k : AV → Mem → Prop} {q : Pack k} (hlk : lookB m l = some (.row ver ⟨1, false⟩ true (zs.map eI))) (hn : n = zs.length) (hz : zs.length ≤ 1048576)
    (hk : k (.ref l (ver + 1) 0 (Lib.compact zs).length) ((l, .row (ver + 1) ⟨1, false⟩ true ((Lib.compact zs ++ List.replicate (zs.length - (Lib.compact zs).length) 0).map eI)) :: m)) :
    sCallT Tryz.prog 104 d [.ref l ver 0 n] xt m k q :=
  sCallT_ints (Lib.compact zs).length ⟨_, _, Tryz.func104, by rfl, rfl⟩ hlk hn (ys := Lib.compact zs ++ List.replicate (zs.length - (Lib.compact zs).length) 0) (by have := compact_len zs; simp; omega) (compact_len zs) hz
    (fun blk cap w hH hc => AnyG.slices_Compact_int Tryz.layCompact blk 0 cap zs w hH (by omega) hc) (fun a w => AnyG.slices_Compact_int_empty Tryz.layCompact a 0 w) hk
theorem s_CompactX {d l ver n : Nat} {zs : List Int} {xt : List AV} {m : Mem} {k : AV → Mem → Prop} {q : Pack k} (hlk : lookB m l = some (.row ver ⟨1, false⟩ true (zs.map eI))) (hn : n = zs.length) (hz : zs.length ≤ 1048576)
    (hk : k (.ref l (ver + 1) 0 (Lib.compact zs).length) ((l, .row (ver + 1) ⟨1, false⟩ true ((Lib.compact zs ++ List.replicate (zs.length - (Lib.compact zs).length) 0).map eI)) :: m)) :
    sCallX Tryz.prog 104 d [.ref l ver 0 n] xt m k q :=
  sCallX_ints (Lib.compact zs).length ⟨_, _, Tryz.func104, by rfl, rfl⟩ hlk hn (ys := Lib.compact zs ++ List.replicate (zs.length - (Lib.compact zs).length) 0) (by have := compact_len zs; simp; omega) (compact_len zs) hz
    (fun blk cap w hH hc => AnyG.slices_Compact_int Tryz.layCompact blk 0 cap zs w hH (by omega) hc) (fun a w => AnyG.slices_Compact_int_empty Tryz.layCompact a 0 w) hk
end Go.Vc


