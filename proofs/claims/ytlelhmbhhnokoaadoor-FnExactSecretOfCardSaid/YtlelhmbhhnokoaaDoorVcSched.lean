/-
  Every order that a region may draw ends where the order of the text ends.
-/
import Derived.Test.YtlelhmbhhnokoaaDoorVcDraw
set_option linter.unusedVariables false
set_option linter.unusedSimpArgs false
set_option linter.unnecessarySimpa false
namespace Go.Vc

structure Rec where
  x : AV
  new : Mem

def want1 (ops : List Oper) (o : Oper) (ts : Env) : Option Bool := match o.guard with
  | none => some true
  | some (j, w) => match look ts (dstOf ops j) with
    | .val (.bool c) => some (c == w)
    | .tup [] => some false
    | _ => none

def tR (ops : List Oper) (o : Oper) : List Nat := (o.op.operands.toList.filterMap fun | .tmp t => some t | _ => none) ++ (match o.guard with | some (j, _) => [dstOf ops j] | none => [])
def rdL (op : Op) (ts : Env) : List Nat := (rdO op).flatMap fun o => (labs (ev ts o)).map (·.1)

/-- The operation has this outcome. -/
def YA (P : Program) (ops : List Oper) (o : Oper) (q : Rec) (rd : List Nat) (ts : Env) (m : Mem) : Prop :=
  (want1 ops o ts = some true ∧ (∀ l, l ∈ rdL o.op ts → l ∈ rd) ∧ ∀ m', (∀ l, l ∈ rdL o.op ts → lookB m' l = lookB m l) → (∀ l, l ∈ q.new.map (·.1) → lookB m' l = lookB m l) → ∀ k, k q.x (q.new ++ m') → sOpD P (o.dst.getD 0) o.op ts m' k) ∨
  (want1 ops o ts = some false ∧ q.x = .tup [] ∧ q.new = [])

theorem ev_of_look {ts ts' : Env} {o : Operand} (h : ∀ t, o = .tmp t → look ts' t = look ts t) : ev ts' o = ev ts o := by
  cases o with
  | tmp t => exact h t rfl
  | _ => rfl

theorem evs_of_tR {ops : List Oper} {o : Oper} {ts ts' : Env} (h : ∀ t, t ∈ tR ops o → look ts' t = look ts t) : ∀ x, x ∈ o.op.operands.toList → ev ts' x = ev ts x := fun x hx =>
  ev_of_look fun t ht => h t (by
    subst ht
    unfold tR
    exact List.mem_append_left _ (List.mem_filterMap.2 ⟨_, hx, rfl⟩))

theorem want1_of_tR {ops : List Oper} {o : Oper} {ts ts' : Env} (h : ∀ t, t ∈ tR ops o → look ts' t = look ts t) : want1 ops o ts' = want1 ops o ts := by
  unfold want1
  split
  · rfl
  · rename_i j w hg
    rw [h (dstOf ops j) (by unfold tR; rw [hg]; exact List.mem_append_right _ (List.mem_singleton.2 rfl))]

theorem YA.local {P : Program} {ops : List Oper} {o : Oper} {q : Rec} {rd : List Nat} {ts ts' : Env} {m m' : Mem} (h : YA P ops o q rd ts m) (ht : ∀ t, t ∈ tR ops o → look ts' t = look ts t)
    (hr : ∀ l, l ∈ rd → lookB m' l = lookB m l) (hn : ∀ l, l ∈ q.new.map (·.1) → lookB m' l = lookB m l) : YA P ops o q rd ts' m' := by
  have hev := evs_of_tR ht
  have hrd : rdL o.op ts' = rdL o.op ts := by
    unfold rdL
    rw [List.flatMap_def, List.flatMap_def, List.map_congr_left fun x hx => by rw [hev x (rdO_sub hx)]]
  rcases h with ⟨h1, h2, h3⟩ | ⟨h1, h2, h3⟩
  · refine .inl ⟨(want1_of_tR ht).trans h1, fun l hl => h2 l (hrd ▸ hl), fun m'' hm hm' k hk => ?_⟩
    rw [sOpD_ts hev]
    exact h3 m'' (fun l hl => (hm l (hrd ▸ hl)).trans (hr l (h2 l hl))) (fun l hl => (hm' l hl).trans (hn l hl)) k hk
  · exact .inr ⟨(want1_of_tR ht).trans h1, h2, h3⟩

/-- The state when the operations of D have been done. -/
def Stt (os : Nat → Oper) (qs : Nat → Rec) (D : Nat → Bool) (ts : Env) (m : Mem) : Nat → Env × Mem
  | 0 => (ts, m)
  | i + 1 => if D i then (putE (os i).dst (qs i).x (Stt os qs D ts m i).1, (qs i).new ++ (Stt os qs D ts m i).2) else Stt os qs D ts m i

section
variable {os : Nat → Oper} {qs : Nat → Rec} {D D' : Nat → Bool} {ts : Env} {m : Mem}

theorem look_putE (d : Option Nat) (x : AV) (ts : Env) (t : Nat) : look (putE d x ts) t = if d = some t then x else look ts t := by
  cases d with
  | none => simp [putE]
  | some d => simp [putE, look_cons]

theorem lookB_new {new m : Mem} {l : Nat} (h : l ∉ new.map (·.1)) : lookB (new ++ m) l = lookB m l := by
  induction new with
  | nil => rfl
  | cons p r ih =>
    obtain ⟨k, v⟩ := p
    simp only [List.map_cons, List.mem_cons, not_or] at h
    rw [List.cons_append, lookB_cons, if_neg (fun e => h.1 e.symm), ih h.2]
theorem lookB_new_of {new m m' : Mem} {l : Nat} (h : l ∈ new.map (·.1)) : lookB (new ++ m) l = lookB (new ++ m') l := by
  induction new with
  | nil => cases h
  | cons p r ih =>
    obtain ⟨k, v⟩ := p
    simp only [List.cons_append, lookB_cons]
    by_cases e : k = l
    · simp [e]
    · simp only [if_neg e]
      exact ih (by simp only [List.map_cons, List.mem_cons] at h; exact h.resolve_left fun hh => e hh.symm)

theorem Stt_look {t : Nat} : ∀ (hi : Nat) (lo : Nat), lo ≤ hi → (∀ i, lo ≤ i → i < hi → D i ≠ D' i → (os i).dst ≠ some t) → look (Stt os qs D ts m lo).1 t = look (Stt os qs D' ts m lo).1 t →
    look (Stt os qs D ts m hi).1 t = look (Stt os qs D' ts m hi).1 t
  | 0, lo, hl, _, h => by rw [show lo = 0 by omega] at h; exact h
  | hi + 1, lo, hl, hd, h => by
    by_cases e : lo = hi + 1
    · subst e; exact h
    · have ih := Stt_look hi lo (by omega) (fun i h1 h2 => hd i h1 (by omega)) h
      have hne := hd hi (by omega) (by omega)
      simp only [Stt]
      cases h1 : D hi <;> cases h2 : D' hi <;> simp only [Bool.false_eq_true, if_true, if_false] <;> (try simp only [look_putE])
      · exact ih
      · rw [if_neg (hne (by simp [h1, h2]))]; exact ih
      · rw [if_neg (hne (by simp [h1, h2]))]; exact ih
      · rw [ih]
theorem Stt_lookB {l : Nat} : ∀ (hi : Nat) (lo : Nat), lo ≤ hi → (∀ i, lo ≤ i → i < hi → D i ≠ D' i → l ∉ (qs i).new.map (·.1)) → lookB (Stt os qs D ts m lo).2 l = lookB (Stt os qs D' ts m lo).2 l →
    lookB (Stt os qs D ts m hi).2 l = lookB (Stt os qs D' ts m hi).2 l
  | 0, lo, hl, _, h => by rw [show lo = 0 by omega] at h; exact h
  | hi + 1, lo, hl, hd, h => by
    by_cases e : lo = hi + 1
    · subst e; exact h
    · have ih := Stt_lookB hi lo (by omega) (fun i h1 h2 => hd i h1 (by omega)) h
      have hne := hd hi (by omega) (by omega)
      simp only [Stt]
      cases h1 : D hi <;> cases h2 : D' hi <;> simp only [Bool.false_eq_true, if_true, if_false]
      · exact ih
      · rw [lookB_new (hne (by simp [h1, h2]))]; exact ih
      · rw [lookB_new (hne (by simp [h1, h2]))]; exact ih
      · by_cases hl : l ∈ (qs hi).new.map (·.1)
        · exact lookB_new_of hl
        · rw [lookB_new hl, lookB_new hl]; exact ih

theorem Stt_prefix {j : Nat} : ∀ (i : Nat), i ≤ j → (∀ q, q < j → D q = D' q) → Stt os qs D ts m i = Stt os qs D' ts m i
  | 0, _, _ => rfl
  | i + 1, hi, h => by simp only [Stt]; rw [Stt_prefix i (by omega) h, h i (by omega)]
theorem Stt_stop {j : Nat} (h : ∀ q, j ≤ q → D q = false) : ∀ (i : Nat), j ≤ i → Stt os qs D ts m i = Stt os qs D ts m j
  | 0, hi => by rw [show j = 0 by omega]
  | i + 1, hi => by
    by_cases e : j = i + 1
    · rw [e]
    · simp only [Stt]
      rw [h i (by omega)]
      simpa using Stt_stop h i (by omega)

end

/- ---- who comes before whom -/
def ins (a xs : List Nat) : List Nat := xs.foldl (fun a x => if a.contains x then a else x :: a) a
theorem mem_ins {x : Nat} : ∀ (xs a : List Nat), x ∈ ins a xs → x ∈ a ∨ x ∈ xs
  | [], a, h => .inl h
  | y :: r, a, h => by
    simp only [ins, List.foldl_cons] at h
    rcases mem_ins r _ h with h | h
    · split at h
      · exact .inl h
      · rcases List.mem_cons.1 h with rfl | h
        · exact .inr (List.mem_cons_self ..)
        · exact .inl h
    · exact .inr (List.mem_cons_of_mem _ h)
def preds (o : Oper) : List Nat := (o.after.toList.filter (Region.binds .any)).map (·.on)
def ancOf (acc : List (List Nat)) (o : Oper) : List Nat := (preds o).foldl (fun a i => ins a (i :: acc.getD i [])) []
theorem mem_ancOf {x : Nat} {acc : List (List Nat)} : ∀ (ps a : List Nat), x ∈ ps.foldl (fun a i => ins a (i :: acc.getD i [])) a → x ∈ a ∨ ∃ i, i ∈ ps ∧ (x = i ∨ x ∈ acc.getD i [])
  | [], a, h => .inl h
  | p :: r, a, h => by
    rw [List.foldl_cons] at h
    rcases mem_ancOf r _ h with h | ⟨i, hi, h⟩
    · rcases mem_ins _ _ h with h | h
      · exact .inl h
      · exact .inr ⟨p, List.mem_cons_self .., List.mem_cons.1 h⟩
    · exact .inr ⟨i, List.mem_cons_of_mem _ hi, h⟩
def ancsGo : List Oper → List (List Nat) → List (List Nat)
  | [], acc => acc
  | o :: r, acc => ancsGo r (acc ++ [ancOf acc o])

/-- D holds what its members wait for. -/
def Closed (ops : List Oper) (D : Nat → Bool) : Prop := ∀ j o, ops[j]? = some o → D j = true → ∀ i, i ∈ preds o → D i = true

theorem ancsGo_closed {ops : List Oper} {D : Nat → Bool} (hD : Closed ops D) : ∀ (l : List Oper) (acc : List (List Nat)), ops.drop acc.length = l → (∀ j x, x ∈ acc.getD j [] → D j = true → D x = true) →
    ∀ j x, x ∈ (ancsGo l acc).getD j [] → D j = true → D x = true
  | [], acc, _, h => h
  | o :: r, acc, hl, h => by
    have hoi : ops[acc.length]? = some o := by
      have := congrArg (·[0]?) hl
      simpa using this
    refine ancsGo_closed hD r (acc ++ [ancOf acc o]) ?_ ?_
    · have := congrArg List.tail hl
      simpa using this
    · intro j x hx hj
      by_cases e : j < acc.length
      · refine h j x ?_ hj
        rwa [List.getD_eq_getElem?_getD, List.getElem?_append_left e, ← List.getD_eq_getElem?_getD] at hx
      · by_cases e2 : j = acc.length
        · subst e2
          rw [List.getD_eq_getElem?_getD, List.getElem?_append_right (Nat.le_refl _)] at hx
          simp only [Nat.sub_self, List.getElem?_cons_zero, Option.getD_some] at hx
          rcases mem_ancOf _ _ hx with hx | ⟨i, hi, hx⟩
          · cases hx
          · have h1 := hD _ o hoi hj i hi
            rcases hx with rfl | hx
            · exact h1
            · exact h i x hx h1
        · rw [List.getD_eq_getElem?_getD, List.getElem?_eq_none (by simp; omega)] at hx
          cases hx

def apartP (ops : List Oper) (oi oj : Oper) (ti tj : List Nat × List Nat) : Bool :=
  (match oi.dst with | some d => !(tR ops oj).contains d && oj.dst != some d | none => true) && (match oj.dst with | some d => !(tR ops oi).contains d | none => true) &&
  ti.2.all (fun l => !tj.1.contains l && !tj.2.contains l) && tj.2.all (fun l => !ti.1.contains l)
def backB (ops : List Oper) : Bool := (List.range ops.length).all fun i => match ops[i]? with | some o => (preds o).all fun p => decide (p < i) | none => true
/-- Two operations that may change places do not meddle with one another. 'tr': the labels that each reads and writes. -/
def drawB (ops : List Oper) (tr : List (List Nat × List Nat)) : Bool :=
  backB ops && (List.range ops.length).all fun j => (List.range j).all fun i => ((ancsGo ops []).getD j []).contains i ||
    match ops[i]?, ops[j]?, tr[i]?, tr[j]? with
    | some oi, some oj, some ti, some tj => apartP ops oi oj ti tj
    | _, _, _, _ => false

structure ApartI (ops : List Oper) (oi oj : Oper) (ri rj wi wj : List Nat) : Prop where
  t1 : ∀ d, oi.dst = some d → d ∉ tR ops oj
  t2 : ∀ d, oj.dst = some d → d ∉ tR ops oi
  t3 : ∀ d, oi.dst = some d → oj.dst ≠ some d
  l1 : ∀ l, l ∈ wi → l ∉ rj
  l2 : ∀ l, l ∈ wj → l ∉ ri
  l3 : ∀ l, l ∈ wi → l ∉ wj

theorem apartP_out {ops : List Oper} {oi oj : Oper} {ti tj : List Nat × List Nat} (h : apartP ops oi oj ti tj = true) : ApartI ops oi oj ti.1 tj.1 ti.2 tj.2 := by
  simp only [apartP, Bool.and_eq_true, List.all_eq_true, Bool.not_eq_true', List.contains_eq_mem, decide_eq_false_iff_not] at h
  obtain ⟨⟨⟨h1, h2⟩, h3⟩, h4⟩ := h
  refine ⟨fun d hd => ?_, fun d hd => ?_, fun d hd => ?_, fun l hl => (h3 l hl).1, fun l hl => h4 l hl, fun l hl => (h3 l hl).2⟩
  · rw [hd] at h1; simp at h1; exact h1.1
  · rw [hd] at h2; simp at h2; exact h2
  · rw [hd] at h1; simp at h1; exact h1.2

theorem drawB_out {ops : List Oper} {tr : List (List Nat × List Nat)} (h : drawB ops tr = true) {D : Nat → Bool} (hD : Closed ops D) {i j : Nat} (hij : i < j) {oi oj : Oper} {ti tj : List Nat × List Nat}
    (hi : ops[i]? = some oi) (hj : ops[j]? = some oj) (h1 : tr[i]? = some ti) (h2 : tr[j]? = some tj) (hd : ¬ (D j = true → D i = true)) : ApartI ops oi oj ti.1 tj.1 ti.2 tj.2 := by
  have hjl : j < ops.length := (List.getElem?_eq_some_iff.1 hj).1
  simp only [drawB, Bool.and_eq_true, List.all_eq_true, List.mem_range, Bool.or_eq_true, List.contains_eq_mem, decide_eq_true_eq] at h
  rcases h.2 j hjl i hij with hh | hh
  · exact absurd (ancsGo_closed hD ops [] rfl (fun j x hx => by simp at hx) j i hh) hd
  · rw [hi, hj, h1, h2] at hh
    exact apartP_out hh

end Go.Vc
