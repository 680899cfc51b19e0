/-
  Loops by what their rounds change: the rest of the state is carried along by lists of temporaries and labels.
-/
import Derived.Test.YtlelhmbhhnokoaaDoorVcSimp
import Derived.Test.YtlelhmbhhnokoaaDoorVcRen
set_option linter.unusedVariables false
set_option linter.unusedSimpArgs false
set_option linter.unnecessarySimpa false
namespace Go.Vc

def pick (L : List Nat) (ts : Env) : Env := L.map fun t => (t, look ts t)
theorem pick_nil (ts : Env) : pick [] ts = [] := rfl
theorem pick_cons (t : Nat) (L : List Nat) (ts : Env) : pick (t :: L) ts = (t, look ts t) :: pick L ts := rfl
/-- a label of the list, or one that a call into such a temporary has made -/
def inD : List Nat → Nat → Bool
  | [], _ => false
  | d :: D, l => l == d || (l / 1000 == d + 1 || inD D l)
theorem inD_nil (l : Nat) : inD [] l = false := rfl
theorem inD_cons (d : Nat) (D : List Nat) (l : Nat) : inD (d :: D) l = (l == d || (l / 1000 == d + 1 || inD D l)) := rfl
def inE : List Nat → Nat → Bool
  | [], _ => false
  | d :: D, l => l == d || inE D l
theorem inE_nil (l : Nat) : inE [] l = false := rfl
theorem inE_cons (d : Nat) (D : List Nat) (l : Nat) : inE (d :: D) l = (l == d || inE D l) := rfl
/-- the memory without the labels of D, those that calls into temporaries of D have made, and those of E -/
def dropB (D E : List Nat) : Mem → Mem
  | [] => []
  | (l, b) :: r => if (inD D l || inE E l) = true then dropB D E r else (l, b) :: dropB D (l :: E) r
theorem dropB_nil (D E : List Nat) : dropB D E [] = [] := rfl
theorem dropB_cons (D E : List Nat) (l : Nat) (b : Blk) (r : Mem) : dropB D E ((l, b) :: r) = if (inD D l || inE E l) = true then dropB D E r else (l, b) :: dropB D (l :: E) r := rfl
theorem or_t_l (b : Bool) : (true || b) = true := rfl
theorem or_f_l (b : Bool) : (false || b) = b := rfl

section
variable {P : Program} {N : Nat} {ts : Env} {m : Mem}

/-- A loop that counts from 0 to n: 'L': the temporaries that stay, 'D', 'E': the labels that do not; 'up', 'um': what round i finds in the others. -/
theorem Later.up {body : Code} (L D E : List Nat) (n : Nat) (I : Nat → Prop) (up : Nat → Env) (um : Nat → Mem) {Q : Post} {q : Pack (Code.loop body, Q)} (h0 : I 0)
    (hr : refS ts m (up 0 ++ pick L ts) (um 0 ++ dropB D E m)) (hok : codeOk N body = true)
    (step : ∀ i, i < n → I i → vc P N body (up i ++ pick L ts) (um i ++ dropB D E m) (thn Q fun ts' m' => I (i + 1) ∧ refS ts' m' (up (i + 1) ++ pick L ts) (um (i + 1) ++ dropB D E m)))
    (stop : I n → vc P N body (up n ++ pick L ts) (um n ++ dropB D E m) (thn Q fun _ _ => False)) : Later P N (.loop body) ts m Q q :=
  Later.upto n I (fun i => (up i ++ pick L ts, um i ++ dropB D E m)) h0 hr hok step stop

/-- The same; at a round's end labels may change places. -/
theorem Later.upR {body : Code} (L D E : List Nat) (n : Nat) (I : Nat → Prop) (up : Nat → Env) (um : Nat → Mem) {Q : Post} {q : Pack (Code.loop body, Q)} (h0 : I 0)
    (hr : RefR ts m (up 0 ++ pick L ts) (um 0 ++ dropB D E m)) (hok : codeOk N body = true)
    (step : ∀ i, i < n → I i → vc P N body (up i ++ pick L ts) (um i ++ dropB D E m) (thn Q fun ts' m' => I (i + 1) ∧ RefR ts' m' (up (i + 1) ++ pick L ts) (um (i + 1) ++ dropB D E m)))
    (stop : I n → vc P N body (up n ++ pick L ts) (um n ++ dropB D E m) (thn Q fun _ _ => False)) : Later P N (.loop body) ts m Q q := by
  refine ⟨Ok.loopR (fun i => i ≤ n ∧ I i) (fun i => (up i ++ pick L ts, um i ++ dropB D E m)) (fun i => n - i) 0 ⟨Nat.zero_le _, h0⟩ hr fun i ⟨hi, hI⟩ => ?_⟩
  rcases Nat.lt_or_ge i n with h | h
  · refine (vc_sound body _ _ _ hok (step i h hI)).mono fun e ts' m' hq => ?_
    cases e with
    | normal => exact ⟨i + 1, ⟨h, hq.1⟩, by omega, hq.2⟩
    | _ => exact hq
  · have e : i = n := Nat.le_antisymm hi h
    subst e
    refine (vc_sound body _ _ _ hok (stop hI)).mono fun e ts' m' hq => ?_
    cases e with
    | normal => exact hq.elim
    | _ => exact hq
theorem RefR.one {ts : Env} {m : Mem} {ts2 : Env} {m2 : Mem} (l l' : Nat) (hl : l < ioL) (hl' : l' < ioL) (h : refS (rnE l l' ts) (rnM l l' m) ts2 m2) : RefR ts m ts2 m2 := .mv l l' hl hl' (.here h)
theorem RefR.two {ts : Env} {m : Mem} {ts2 : Env} {m2 : Mem} (l l' k k' : Nat) (hl : l < ioL) (hl' : l' < ioL) (hk : k < ioL) (hk' : k' < ioL) (h : refS (rnE k k' (rnE l l' ts)) (rnM k k' (rnM l l' m)) ts2 m2) : RefR ts m ts2 m2 :=
  .mv l l' hl hl' (.mv k k' hk hk' (.here h))
theorem Later.lpR {body : Code} {ι : Type} (L D E : List Nat) (I : ι → Prop) (up : ι → Env) (um : ι → Mem) (μ : ι → Nat) {Q : Post} {q : Pack (Code.loop body, Q)} (x0 : ι) (h0 : I x0)
    (hr : RefR ts m (up x0 ++ pick L ts) (um x0 ++ dropB D E m)) (hok : codeOk N body = true)
    (step : ∀ x, I x → vc P N body (up x ++ pick L ts) (um x ++ dropB D E m) (thn Q fun ts' m' => ∃ y, I y ∧ μ y < μ x ∧ RefR ts' m' (up y ++ pick L ts) (um y ++ dropB D E m))) : Later P N (.loop body) ts m Q q :=
  ⟨Ok.loopR I (fun i => (up i ++ pick L ts, um i ++ dropB D E m)) μ x0 h0 hr fun x hx => vc_sound body _ _ _ hok (step x hx)⟩

/-- A loop by a measure. -/
theorem Later.lp {body : Code} {ι : Type} (L D E : List Nat) (I : ι → Prop) (up : ι → Env) (um : ι → Mem) (μ : ι → Nat) {Q : Post} {q : Pack (Code.loop body, Q)} (x0 : ι) (h0 : I x0)
    (hr : refS ts m (up x0 ++ pick L ts) (um x0 ++ dropB D E m)) (hok : codeOk N body = true)
    (step : ∀ x, I x → vc P N body (up x ++ pick L ts) (um x ++ dropB D E m) (thn Q fun ts' m' => ∃ y, I y ∧ μ y < μ x ∧ refS ts' m' (up y ++ pick L ts) (um y ++ dropB D E m))) : Later P N (.loop body) ts m Q q :=
  Later.loop I (fun i => (up i ++ pick L ts, um i ++ dropB D E m)) μ x0 h0 hr hok step
end
attribute [go_sem] rl_eq rnA_ref rnA_ptr rnA_agg rnA_tup rnA_clo rnA_undef rnA_val rnA_e0 rnA_arr rnA_eptr rnL_nil rnL_cons rnB_box rnB_row rnB_gone rnE_nil rnE_cons rnM_nil rnM_cons
attribute [go_sem] Nat.reduceLT true_or or_true or_false false_or pick_nil pick_cons inD_nil inD_cons inE_nil inE_cons dropB_nil dropB_cons or_t_l or_f_l Nat.reduceBEq Nat.reduceDiv beq_self_eq_true Bool.false_eq_true
end Go.Vc
