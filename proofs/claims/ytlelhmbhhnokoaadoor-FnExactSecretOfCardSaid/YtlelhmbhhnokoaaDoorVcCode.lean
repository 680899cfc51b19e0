/-
  Regions, code, loops, functions.
-/
import Derived.Test.YtlelhmbhhnokoaaDoorVcSound
set_option linter.unusedVariables false
set_option linter.unusedSimpArgs false
set_option linter.unnecessarySimpa false
namespace Go.Vc

abbrev St := Env → Mem → Prop
abbrev Post := Exit → Env → Mem → Prop

/-- a guarded operation -/
def sGuard (want : Bool) (y : AV) (a b : Prop) : Prop := match y with
  | .val (.bool c) => (c = want → a) ∧ (c ≠ want → b)
  | .tup [] => b
  | _ => False
@[congr] theorem sGuard_congr {w : Bool} {y y' : AV} {a b : Prop} (h : y = y') : sGuard w y a b = sGuard w y' a b := by rw [h]
theorem sGuard_t (c : Bool) (a b : Prop) : sGuard true (.val (.bool c)) a b = ((c = true → a) ∧ (c = false → b)) := by simp [sGuard]
theorem sGuard_u (w : Bool) (a b : Prop) : sGuard w (.tup []) a b = b := rfl
theorem sGuard_f (c : Bool) (a b : Prop) : sGuard false (.val (.bool c)) a b = ((c = false → a) ∧ (c = true → b)) := by simp [sGuard]

def dstOf (ops : List Oper) (j : Nat) : Nat := match (ops[j]?).bind (·.dst) with | some d => d | none => 0
def putE (d : Option Nat) (x : AV) (ts : Env) : Env := match d with | some d => (d, x) :: ts | none => ts
theorem putE_some (d : Nat) (x : AV) (ts : Env) : putE (some d) x ts = (d, x) :: ts := rfl
theorem putE_none (x : AV) (ts : Env) : putE none x ts = ts := rfl

/-- the operations of a region, one behind the other -/
def sL (P : Program) (ops : List Oper) : List Oper → Env → Mem → St → Prop
  | [], ts, m, k => k ts m
  | o :: r, ts, m, k => match o.guard with
    | none => sOp P (o.dst.getD 0) o.op ts m fun x m' => sL P ops r (putE o.dst x ts) m' k
    | some (j, want) => sGuard want (look ts (dstOf ops j)) (sOp P (o.dst.getD 0) o.op ts m fun x m' => sL P ops r (putE o.dst x ts) m' k) (sL P ops r (putE o.dst (.tup []) ts) m k)
theorem sL_nil (P : Program) (ops : List Oper) (ts : Env) (m : Mem) (k : St) : sL P ops [] ts m k = k ts m := rfl
theorem sL_plain (P : Program) (ops : List Oper) (d : Nat) (op : Op) (ty : TypeId) (p : String) (e : Array Edge) (r : List Oper) (ts : Env) (m : Mem) (k : St) :
    sL P ops (⟨some d, op, ty, p, e, none⟩ :: r) ts m k = sOp P d op ts m fun x m' => sL P ops r ((d, x) :: ts) m' k := rfl
theorem sL_quiet (P : Program) (ops : List Oper) (op : Op) (ty : TypeId) (p : String) (e : Array Edge) (r : List Oper) (ts : Env) (m : Mem) (k : St) :
    sL P ops (⟨none, op, ty, p, e, none⟩ :: r) ts m k = sOp P 0 op ts m fun _ m' => sL P ops r ts m' k := rfl
theorem sL_guard (P : Program) (ops : List Oper) (d : Nat) (op : Op) (ty : TypeId) (p : String) (e : Array Edge) (j : Nat) (w : Bool) (r : List Oper) (ts : Env) (m : Mem) (k : St) :
    sL P ops (⟨some d, op, ty, p, e, some (j, w)⟩ :: r) ts m k =
      sGuard w (look ts (dstOf ops j)) (sOp P d op ts m fun x m' => sL P ops r ((d, x) :: ts) m' k) (sL P ops r ((d, .tup []) :: ts) m k) := rfl
theorem dstOf_cons (o : Oper) (l : List Oper) (j : Nat) : dstOf (o :: l) (j + 1) = dstOf l j := rfl
theorem dstOf_zero (d : Nat) (op : Op) (ty : TypeId) (p : String) (e : Array Edge) (g : Option (Nat × Bool)) (l : List Oper) : dstOf (⟨some d, op, ty, p, e, g⟩ :: l) 0 = d := rfl

section
variable {P : Program} {B : Base} {N : Nat} {φ : Nat → LS} {fp : Nat → List Nat} {S : Nat → Prop} {ts : Env} {m : Mem} {a : Act} {w : World}

def opsOk (N : Nat) (ops : List Oper) : Bool := ops.all fun o => match o.dst with | some d => decide (d < N) | none => true

theorem step_done {o : Oper} (hd : ∀ d, o.dst = some d → d < N) {k : AV → Mem → Prop} {v : Value} (hg : Gives B N a (fun x ts' m' => ts' = ts ∧ k x m') v w) {K : St} (hK : ∀ x m', k x m' → K (putE o.dst x ts) m') : Done B N K (a.put o.dst v) w := by
  cases hdst : o.dst with
  | none =>
    refine hg.skip fun x ts' m' ⟨h1, h2⟩ => ?_
    have := hK x m' h2
    rw [hdst] at this
    rw [h1]; exact this
  | some d =>
    refine hg.done (hd d hdst) fun x ts' m' ⟨h1, h2⟩ => ?_
    have := hK x m' h2
    rw [hdst] at this
    rw [h1]; exact this

theorem yield_of (h : RS B N φ fp S ts m a w) {ops : List Oper} {j : Nat} {c : Bool} (hl : look ts (dstOf ops j) = .val (.bool c)) (hj : ∃ d, ((ops[j]?).bind (·.dst)) = some d ∧ d < N) : yielded ops.toArray a.tmps j = some c := by
  obtain ⟨d, hd, hdN⟩ := hj
  have h0 : dstOf ops j = d := by unfold dstOf; rw [hd]
  rw [h0] at hl
  have ht := h.tm d
  rw [hl] at ht
  obtain ⟨hv, _⟩ := rv_val ht
  have hsz : d < a.tmps.size := by rw [h.tsz]; exact hdN
  have e1 : a.tmps[d]? = some (.bool c) := by
    rw [hv]
    simp [Array.getD_eq_getD_getElem?, Array.getElem?_eq_getElem hsz]
  unfold yielded
  simp only [List.getElem?_toArray, hd, Option.bind_some, e1]
theorem yield_none (h : RS B N φ fp S ts m a w) {ops : List Oper} {j : Nat} (hl : look ts (dstOf ops j) = .tup []) (hj : ∃ d, ((ops[j]?).bind (·.dst)) = some d ∧ d < N) : yielded ops.toArray a.tmps j = none := by
  obtain ⟨d, hd, hdN⟩ := hj
  have h0 : dstOf ops j = d := by unfold dstOf; rw [hd]
  rw [h0] at hl
  have ht := h.tm d
  rw [hl] at ht
  have hsz : d < a.tmps.size := by rw [h.tsz]; exact hdN
  have hv : a.tmps.getD d Go.undef = .tuple #[] := by
    generalize a.tmps.getD d Go.undef = v at ht
    cases ht with
    | rd _ _ h => cases h with
      | tup _ cs hl _ => rw [Array.eq_empty_of_size_eq_zero hl]
    | tup _ cs hl _ => rw [Array.eq_empty_of_size_eq_zero hl]
  have e1 : a.tmps[d]? = some (.tuple #[]) := by
    rw [← hv]
    simp [Array.getD_eq_getD_getElem?, Array.getElem?_eq_getElem hsz]
  unfold yielded
  simp only [List.getElem?_toArray, hd, Option.bind_some, e1]


/-- every guard names an operation of the region that yields -/
def guardsOk (N : Nat) (ops : List Oper) : Bool := ops.all fun o => match o.guard with
  | none => true
  | some (j, _) => match (ops[j]?).bind (·.dst) with | some d => decide (d < N) | none => false

theorem region_sound {ops : List Oper} (hok : opsOk N ops = true) (hgs : guardsOk N ops = true) {Q : Exit → Act → World → Prop} {K : St} (hQ : ∀ a w, Done B N K a w → Q .normal a w) :
    ∀ (l : List Oper) (i : Nat), ops.drop i = l → ∀ (φ : Nat → LS) (fp : Nat → List Nat) (S : Nat → Prop) (ts : Env) (m : Mem) (a : Act) (w : World), RS B N φ fp S ts m a w → sL P ops l ts m K →
      wpOps P ops.toArray Q ((List.range (ops.length - i)).map (· + i)) a w
  | [], i, hl, φ, fp, S, ts, m, a, w, h, hk => by
    have : ops.length - i = 0 := by
      have := congrArg List.length hl; simpa using this
    rw [this]
    exact hQ a w ⟨φ, fp, S, ts, m, h, hk⟩
  | o :: r, i, hl, φ, fp, S, ts, m, a, w, h, hk => by
    have hi : i < ops.length := by
      have := congrArg List.length hl; simp at this; omega
    have hoi : ops[i]? = some o := by
      have := congrArg (·[0]?) hl
      simpa using this
    have hr : ops.drop (i + 1) = r := by
      have := congrArg List.tail hl
      simpa using this
    have e : (List.range (ops.length - i)).map (· + i) = i :: (List.range (ops.length - (i + 1))).map (· + (i + 1)) := by
      rw [show ops.length - i = (ops.length - (i + 1)) + 1 by omega, List.range_succ_eq_map]
      simp [List.map_map, Function.comp_def]; intro q hq; omega
    rw [e]
    have hoo : ops.toArray[i]? = some o := by simpa using hoi
    simp only [wpOps, hoo]
    have hdo : ∀ d, o.dst = some d → d < N := by
      intro d hd
      have := List.all_eq_true.1 hok o (List.mem_of_getElem? hoi)
      rw [hd] at this; simpa using this
    have run : sOp P (o.dst.getD 0) o.op ts m (fun x m' => sL P ops r (putE o.dst x ts) m' K) → o.wp P a w (wpOps P ops.toArray Q ((List.range (ops.length - (i + 1))).map (· + (i + 1)))) Q := by
      intro hk
      refine op_sound h hk fun v w' hg => ?_
      obtain ⟨φ', fp', S', ts', m', h1, h2⟩ := step_done (o := o) (K := fun ts m => sL P ops r ts m K) hdo hg (fun x m' h => h)
      exact region_sound hok hgs hQ r (i + 1) hr φ' fp' S' ts' m' _ w' h1 h2
    have skip : sL P ops r (putE o.dst (.tup []) ts) m K → wpOps P ops.toArray Q ((List.range (ops.length - (i + 1))).map (· + (i + 1))) (a.put o.dst Go.undef) w := by
      intro hk
      obtain ⟨φ', fp', S', ts', m', h1, h2⟩ := step_done (o := o) (a := a) (w := w) (v := Go.undef) (K := fun ts m => sL P ops r ts m K) (k := fun x m' => x = .tup [] ∧ m' = m) hdo
        (h.gives (x := .tup []) (.rd _ _ (.tup [] #[] rfl fun i hi => absurd hi (Nat.not_lt_zero _))) (fun _ _ hl => by cases hl) ⟨rfl, rfl, rfl⟩) (fun x m' ⟨h1, h2⟩ => by rw [h1, h2]; exact hk)
      exact region_sound hok hgs hQ r (i + 1) hr φ' fp' S' ts' m' _ w h1 h2
    cases hg : o.guard with
    | none =>
      simp only [sL, hg] at hk
      simp only [Region.wanted, hg, if_true]
      exact .inl (run hk)
    | some jw =>
      obtain ⟨j, want⟩ := jw
      simp only [sL, hg] at hk
      have hgo := List.all_eq_true.1 hgs o (List.mem_of_getElem? hoi)
      rw [hg] at hgo
      unfold sGuard at hk
      split at hk
      · rename_i c hy
        have hj : ∃ d, ((ops[j]?).bind (·.dst)) = some d ∧ d < N := by
          simp only at hgo
          split at hgo
          · rename_i d hd; exact ⟨d, hd, by simpa using hgo⟩
          · cases hgo
        have hyy := yield_of h hy hj
        simp only [Region.wanted, hg, hyy]
        by_cases hc : c = want
        · subst hc
          simp only [beq_self_eq_true, if_true]
          exact .inl (run (hk.1 rfl))
        · have : (some c == some want) = false := by simpa using hc
          simp only [this, Bool.false_eq_true, if_false]
          exact skip (hk.2 hc)
      · rename_i hy
        have hj : ∃ d, ((ops[j]?).bind (·.dst)) = some d ∧ d < N := by
          simp only at hgo
          split at hgo
          · rename_i d hd; exact ⟨d, hd, by simpa using hgo⟩
          · cases hgo
        have hyy := yield_none h hy hj
        simp only [Region.wanted, hg, hyy]
        have : ((none : Option Bool) == some want) = false := by simp
        simp only [this, Bool.false_eq_true, if_false]
        exact skip hk
      · exact hk.elim

/-- The code, run from any frame and world that the abstract state describes, ends in one that meets Q. -/
def Ok (P : Program) (N : Nat) (c : Code) (ts : Env) (m : Mem) (Q : Post) : Prop :=
  ∀ (B : Base) (φ : Nat → LS) (fp : Nat → List Nat) (S : Nat → Prop) (a : Act) (w : World), RS B N φ fp S ts m a w → c.wp P (fun e a' w' => Done B N (Q e) a' w') a w

/-- The same, out of the simplifier's reach. -/
structure Later (P : Program) (N : Nat) (c : Code) (ts : Env) (m : Mem) (Q : Post) (_ : Pack (c, Q)) : Prop where
  ok : Ok P N c ts m Q
theorem Ok.later {N : Nat} {c : Code} {Q : Post} {q : Pack (c, Q)} (h : Ok P N c ts m Q) : Later P N c ts m Q q := ⟨h⟩

def thn (Q : Post) (n : St) : Post
  | .normal => n
  | .exit i => Q (.exit i)
  | .ret => Q .ret
  | e => Q e
theorem thn_normal (Q : Post) (n : St) : thn Q n .normal = n := rfl
theorem thn_ret (Q : Post) (n : St) : thn Q n .ret = Q .ret := rfl
theorem thn_exit (Q : Post) (n : St) (i : Nat) : thn Q n (.exit i) = Q (.exit i) := rfl
def blk (Q : Post) (id : Nat) : Post
  | .exit j => if j = id then Q .normal else Q (.exit j)
  | .normal => Q .normal
  | .ret => Q .ret
  | e => Q e
theorem blk_normal (Q : Post) (i : Nat) : blk Q i .normal = Q .normal := rfl
theorem blk_ret (Q : Post) (i : Nat) : blk Q i .ret = Q .ret := rfl
theorem blk_exit (Q : Post) (i j : Nat) : blk Q i (.exit j) = if j = i then Q .normal else Q (.exit j) := rfl

/-- What must be shown of a code from an abstract state. A loop is left as it stands. -/
def vc (P : Program) (N : Nat) : Code → Env → Mem → Post → Prop
  | .skip, ts, m, Q => Q .normal ts m
  | .region i ops false, ts, m, Q => sL P ops.toList ops.toList ts m (Q .normal)
  | .region i ops true, ts, m, Q => Ok P N (.region i ops true) ts m Q
  | .seq a b, ts, m, Q => vc P N a ts m (thn Q fun ts' m' => vc P N b ts' m' Q)
  | .cond c a b, ts, m, Q => sIf (ev ts c) (vc P N a ts m Q) (vc P N b ts m Q)
  | .block id b, ts, m, Q => vc P N b ts m (blk Q id)
  | .loop b, ts, m, Q => Ok P N (.loop b) ts m Q
  | .exit id, ts, m, Q => Q (.exit id) ts m
  | .ret, ts, m, Q => Q .ret ts m
  | _, _, _, _ => False
theorem vc_skip (N : Nat) (ts : Env) (m : Mem) (Q : Post) : vc P N .skip ts m Q = Q .normal ts m := rfl
theorem vc_region (N i : Nat) (l : List Oper) (ts : Env) (m : Mem) (Q : Post) : vc P N (.region i ⟨l⟩ false) ts m Q = sL P l l ts m (Q .normal) := rfl
theorem vc_draw (N i : Nat) (l : List Oper) (ts : Env) (m : Mem) (Q : Post) : vc P N (.region i ⟨l⟩ true) ts m Q = Later P N (.region i ⟨l⟩ true) ts m Q ⟨⟩ := propext ⟨fun h => ⟨h⟩, fun h => h.ok⟩
theorem vc_seq (N : Nat) (a b : Code) (ts : Env) (m : Mem) (Q : Post) : vc P N (.seq a b) ts m Q = vc P N a ts m (thn Q fun ts' m' => vc P N b ts' m' Q) := rfl
theorem vc_cond (N : Nat) (c : Operand) (a b : Code) (ts : Env) (m : Mem) (Q : Post) : vc P N (.cond c a b) ts m Q = sIf (ev ts c) (vc P N a ts m Q) (vc P N b ts m Q) := rfl
theorem vc_block (N i : Nat) (b : Code) (ts : Env) (m : Mem) (Q : Post) : vc P N (.block i b) ts m Q = vc P N b ts m (blk Q i) := rfl
theorem vc_loop (N : Nat) (b : Code) (ts : Env) (m : Mem) (Q : Post) : vc P N (.loop b) ts m Q = Later P N (.loop b) ts m Q ⟨⟩ := propext ⟨fun h => ⟨h⟩, fun h => h.ok⟩
theorem vc_exit (N i : Nat) (ts : Env) (m : Mem) (Q : Post) : vc P N (.exit i) ts m Q = Q (.exit i) ts m := rfl
theorem vc_ret (N : Nat) (ts : Env) (m : Mem) (Q : Post) : vc P N .ret ts m Q = Q .ret ts m := rfl

def codeOk (N : Nat) : Code → Bool
  | .region _ ops false => opsOk N ops.toList && guardsOk N ops.toList
  | .seq a b => codeOk N a && codeOk N b
  | .cond _ a b => codeOk N a && codeOk N b
  | .block _ b => codeOk N b
  | _ => true

theorem vc_sound : ∀ (c : Code) (ts : Env) (m : Mem) (Q : Post), codeOk N c = true → vc P N c ts m Q → Ok P N c ts m Q
  | .skip, ts, m, Q, _, h => fun B φ fp S a w hRS => wp_skip ⟨φ, fp, S, ts, m, hRS, h⟩
  | .region i ops false, ts, m, Q, hok, h => fun B φ fp S a w hRS => by
    simp only [codeOk, Bool.and_eq_true] at hok
    refine wp_region ?_
    have := region_sound (P := P) (B := B) (Q := fun e a' w' => Done B N (Q e) a' w') hok.1 hok.2 (K := Q .normal) (fun a w h => h) ops.toList 0 (by simp) φ fp S ts m a w hRS h
    simpa using this
  | .region i ops true, ts, m, Q, _, h => h
  | .seq a b, ts, m, Q, hok, h => fun B φ fp S ac w hRS => by
    simp only [codeOk, Bool.and_eq_true] at hok
    refine wp_seq (wp_mono (vc_sound a ts m _ hok.1 h B φ fp S ac w hRS) fun e a' w' hq => ?_)
    obtain ⟨φ', fp', S', ts', m', h1, h2⟩ := hq
    cases e with
    | normal => exact vc_sound b ts' m' Q hok.2 h2 B φ' fp' S' a' w' h1
    | _ => exact ⟨φ', fp', S', ts', m', h1, h2⟩
  | .cond c x y, ts, m, Q, hok, h => fun B φ fp S ac w hRS => by
    simp only [codeOk, Bool.and_eq_true] at hok
    have h : sIf (ev ts c) (vc P N x ts m Q) (vc P N y ts m Q) := h
    have hc := hRS.ev c
    unfold sIf at h
    split at h
    · rename_i b hv
      rw [hv] at hc
      obtain ⟨hb, _⟩ := rv_val hc
      refine wp_cond_split hb.symm (fun ht => vc_sound x ts m Q hok.1 (h.1 ht) B φ fp S ac w hRS) (fun hf => vc_sound y ts m Q hok.2 (h.2 hf) B φ fp S ac w hRS)
    · exact h.elim
  | .block id b, ts, m, Q, hok, h => fun B φ fp S ac w hRS => by
    refine wp_block (wp_mono (vc_sound b ts m _ hok h B φ fp S ac w hRS) fun e a' w' hq => ?_)
    obtain ⟨φ', fp', S', ts', m', h1, h2⟩ := hq
    cases e with
    | exit j =>
      simp only [blk] at h2
      simp only [Exit.inBlock]
      split
      · rename_i hj; rw [if_pos hj] at h2; exact ⟨φ', fp', S', ts', m', h1, h2⟩
      · rename_i hj; rw [if_neg hj] at h2; exact ⟨φ', fp', S', ts', m', h1, h2⟩
    | _ => exact ⟨φ', fp', S', ts', m', h1, h2⟩
  | .loop b, ts, m, Q, _, h => h
  | .exit id, ts, m, Q, _, h => fun B φ fp S a w hRS => wp_exit ⟨φ, fp, S, ts, m, hRS, h⟩
  | .ret, ts, m, Q, _, h => fun B φ fp S a w hRS => wp_ret ⟨φ, fp, S, ts, m, hRS, h⟩
  | .rangeFunc .., _, _, _, _, h => h.elim
  | .scope .., _, _, _, _, h => h.elim
  | .label .., _, _, _, _, h => h.elim
  | .goto .., _, _, _, _, h => h.elim
  | .refuse .., _, _, _, _, h => h.elim

end
end Go.Vc
