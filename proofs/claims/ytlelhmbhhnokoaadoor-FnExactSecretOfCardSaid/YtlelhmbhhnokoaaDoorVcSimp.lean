/-
  The simp set of the layer Vc.
-/
import Derived.Test.YtlelhmbhhnokoaaDoorVcNil
import Derived.Test.YtlelhmbhhnokoaaDoorVcInl
import Derived.Test.YtlelhmbhhnokoaaDoorVcDrawn
set_option linter.unusedVariables false
set_option linter.unusedSimpArgs false
set_option linter.unnecessarySimpa false
namespace Go.Vc

section
variable (P : Program) (d : Nat) (ts : Env) (m : Mem) (k : AV → Mem → Prop)
theorem sOp_move (x : Operand) : sOp P d (.move x) ts m k = k (ev ts x) m := rfl
theorem sOp_assign (x : Operand) : sOp P d (.assign x) ts m k = k (ev ts x) m := rfl
theorem sOp_pick (c a b : Operand) : sOp P d (.pick c a b) ts m k = sPick (ev ts c) (ev ts a) (ev ts b) fun v => k v m := rfl
theorem sOp_alloc (t : TypeId) : sOp P d (.alloc t) ts m k = sTI (tiOf P t) fun ti => sBox d ti.zero m k := rfl
theorem sOp_box (t : TypeId) (x : Operand) : sOp P d (.box t x) ts m k = sBox d (ev ts x) m k := rfl
theorem sOp_build (t : TypeId) (l : List (Nat × Operand)) : sOp P d (.build t ⟨l⟩) ts m k = sTI (tiOf P t) fun ti => sSt ti.kind (sBuild ti (l.map fun p => (p.1, ev ts p.2)) fun v => k v m) := rfl
theorem sOp_buildSlice (t : TypeId) (n : Nat) (l : List (Nat × Operand)) : sOp P d (.buildSlice t n ⟨l⟩) ts m k = sTI (tiOf P t) fun tt => sSl tt.kind (sTI (tiOf P tt.elem) fun ti => sBuildSlice ti d n (l.map fun p => (p.1, ev ts p.2)) m k) := rfl
theorem sOp_load (t : TypeId) (x : Operand) : sOp P d (.load t x) ts m k = sTI (tiOf P t) fun ti => sLoadX ti.agg ti.size (ev ts x) m k := rfl
theorem sOp_store (t : TypeId) (p y : Operand) : sOp P d (.store t p y) ts m k = sTI (tiOf P t) fun ti => sStoreX ti.size (ev ts p) (ev ts y) m fun m' => k .undef m' := rfl
theorem sOp_nilCheck (x : Operand) : sOp P d (.nilCheck x) ts m k = sNil m (ev ts x) fun v => k v m := rfl
theorem sOp_binOp (op : BinOp) (t t2 : TypeId) (x y : Operand) : sOp P d (.binOp op t x y t2) ts m k = sTI (tiOf P t) fun ti => sBinS P t op (ev ts x) (ev ts y) (fun v => k v m) (sBinN op ti.kind (ev ts x) (ev ts y) (cst y) m fun v => k v m) := rfl
theorem sOp_not (t : TypeId) (x : Operand) : sOp P d (.unOp .not t x) ts m k = sNot (ev ts x) fun v => k v m := rfl
theorem sOp_neg (t : TypeId) (x : Operand) : sOp P d (.unOp .neg t x) ts m k = sNeg (ev ts x) fun v => k v m := rfl
theorem sOp_convert (s t : TypeId) (x : Operand) : sOp P d (.convert s t x) ts m k = sTI (tiOf P s) fun si => sTI (tiOf P t) fun ti => sConvX P si ti (ev ts x) m fun v => k v m := rfl
theorem sOp_makeSlice (t : TypeId) (l c : Operand) : sOp P d (.makeSlice t l c) ts m k = sTI (tiOf P t) fun tt => sSl tt.kind (sTI (tiOf P tt.elem) fun ti => sMake ti d (ev ts l) (ev ts c) m k) := rfl
theorem sOp_slice (t : TypeId) (x : Operand) (lo hi : Option Operand) : sOp P d (.slice t x lo hi none) ts m k = sTI (tiOf P t) fun tt => sSlK P tt (ev ts x) (lo.map (ev ts)) (hi.map (ev ts)) m fun v => k v m := rfl
theorem sOp_slice0 (t : TypeId) (x hi mx : Operand) : sOp P d (.slice t x none (some hi) (some mx)) ts m k = ((is0 (some hi) = true ∧ is0 (some mx) = true) ∧ sTI (tiOf P t) fun tt => sSl tt.kind (sTI (tiOf P tt.elem) fun _ => sSlice0 m (ev ts x) fun v => k v m)) := rfl
theorem sOp_fieldAddr (t : TypeId) (x : Operand) (f : Nat) : sOp P d (.fieldAddr t x f) ts m k = sTI (tiOf P t) fun ti => sFld ti.fields[f]? fun fd => 0 < fd.2.1 ∧ sField fd.1 m (ev ts x) fun v => k v m := rfl
theorem sOp_field (t : TypeId) (x : Operand) (f : Nat) : sOp P d (.field t x f) ts m k = sTI (tiOf P t) fun ti => sFld ti.fields[f]? fun fd => sPartA fd.2.2 fd.2.1 fd.1 (ev ts x) fun v => k v m := rfl
theorem sOp_indexAddr (t : TypeId) (x i : Operand) : sOp P d (.indexAddr t x i) ts m k = sTI (tiOf P t) fun tt => sSl tt.kind (sTI (tiOf P tt.elem) fun ti => sIdx ti.sh m (ev ts x) (ev ts i) fun v => k v m) := rfl
theorem sOp_index (t : TypeId) (x i : Operand) : sOp P d (.index t x i) ts m k = sTI (tiOf P t) fun tt => (match tt.kind with | .string => True | _ => False) ∧ sIndex (ev ts x) (ev ts i) fun v => k v m := rfl
theorem sOp_extract (x : Operand) (i : Nat) : sOp P d (.extract x i) ts m k = sTup i (ev ts x) fun v => k v m := rfl
theorem sOp_len (t : TypeId) (r : List TypeId) (x : Operand) : sOp P d (.call ⟨.builtin .len, ⟨[x]⟩, ⟨t :: r⟩⟩) ts m k = sTI (tiOf P t) fun ti => sLen ti.kind m (ev ts x) fun v => k v m := rfl
theorem sOp_max (tys : Array TypeId) (x y : Operand) : sOp P d (.call ⟨.builtin .max, ⟨[x, y]⟩, tys⟩) ts m k = sMax (ev ts x) (ev ts y) fun v => k v m := rfl
theorem sOp_min (tys : Array TypeId) (x y : Operand) : sOp P d (.call ⟨.builtin .min, ⟨[x, y]⟩, tys⟩) ts m k = sMin (ev ts x) (ev ts y) fun v => k v m := rfl
theorem sOp_append (tys : List TypeId) (x y : Operand) : sOp P d (.call ⟨.builtin .append, ⟨[x, y]⟩, ⟨tys⟩⟩) ts m k = sAppT P tys d (ev ts x) (ev ts y) m k := rfl
theorem sOp_call (f : FuncId) (xs : List Operand) (tys : Array TypeId) : sOp P d (.call ⟨.value (.func f), ⟨xs⟩, tys⟩) ts m k = sCall P f d (xs.map (ev ts)) m k := rfl
theorem sOp_callv (t : Nat) (xs : List Operand) (tys : Array TypeId) : sOp P d (.call ⟨.value (.tmp t), ⟨xs⟩, tys⟩) ts m k = sCallV P (look ts t) d (xs.map (ev ts)) m k := rfl
theorem sOp_makeFunc (f : FuncId) (l : List Operand) : sOp P d (.makeFunc (.func f) ⟨[]⟩ ⟨l⟩) ts m k = (([] : List Operand) = [] ∧ k (.clo f (l.map (ev ts))) m) := rfl
theorem sOpD_move (x : Operand) : sOpD P d (.move x) ts m k = k (ev ts x) m := rfl
theorem sOpD_assign (x : Operand) : sOpD P d (.assign x) ts m k = k (ev ts x) m := rfl
theorem sOpD_pick (c a b : Operand) : sOpD P d (.pick c a b) ts m k = sPick (ev ts c) (ev ts a) (ev ts b) fun v => k v m := rfl
theorem sOpD_alloc (t : TypeId) : sOpD P d (.alloc t) ts m k = sTI (tiOf P t) fun ti => sBox d ti.zero m k := rfl
theorem sOpD_box (t : TypeId) (x : Operand) : sOpD P d (.box t x) ts m k = sBox d (ev ts x) m k := rfl
theorem sOpD_build (t : TypeId) (l : List (Nat × Operand)) : sOpD P d (.build t ⟨l⟩) ts m k = sTI (tiOf P t) fun ti => sSt ti.kind (sBuild ti (l.map fun p => (p.1, ev ts p.2)) fun v => k v m) := rfl
theorem sOpD_buildSlice (t : TypeId) (n : Nat) (l : List (Nat × Operand)) : sOpD P d (.buildSlice t n ⟨l⟩) ts m k = sTI (tiOf P t) fun tt => sSl tt.kind (sTI (tiOf P tt.elem) fun ti => sBuildSlice ti d n (l.map fun p => (p.1, ev ts p.2)) m k) := rfl
theorem sOpD_load (t : TypeId) (x : Operand) : sOpD P d (.load t x) ts m k = sTI (tiOf P t) fun ti => sLoad ti.agg ti.size (ev ts x) m k := rfl
theorem sOpD_store (t : TypeId) (p y : Operand) : sOpD P d (.store t p y) ts m k = sTI (tiOf P t) fun ti => sStore ti.size (ev ts p) (ev ts y) m fun m' => k .undef m' := rfl
theorem sOpD_nilCheck (x : Operand) : sOpD P d (.nilCheck x) ts m k = sNil m (ev ts x) fun v => k v m := rfl
theorem sOpD_binOp (op : BinOp) (t t2 : TypeId) (x y : Operand) : sOpD P d (.binOp op t x y t2) ts m k = sTI (tiOf P t) fun ti => sBinS P t op (ev ts x) (ev ts y) (fun v => k v m) (sBin op ti.kind (ev ts x) (ev ts y) fun v => k v m) := rfl
theorem sOpD_not (t : TypeId) (x : Operand) : sOpD P d (.unOp .not t x) ts m k = sNot (ev ts x) fun v => k v m := rfl
theorem sOpD_neg (t : TypeId) (x : Operand) : sOpD P d (.unOp .neg t x) ts m k = sNeg (ev ts x) fun v => k v m := rfl
theorem sOpD_convert (s t : TypeId) (x : Operand) : sOpD P d (.convert s t x) ts m k = sTI (tiOf P s) fun si => sTI (tiOf P t) fun ti => sConvX P si ti (ev ts x) m fun v => k v m := rfl
theorem sOpD_makeSlice (t : TypeId) (l c : Operand) : sOpD P d (.makeSlice t l c) ts m k = sTI (tiOf P t) fun tt => sSl tt.kind (sTI (tiOf P tt.elem) fun ti => sMake ti d (ev ts l) (ev ts c) m k) := rfl
theorem sOpD_slice (t : TypeId) (x : Operand) (lo hi : Option Operand) : sOpD P d (.slice t x lo hi none) ts m k = sTI (tiOf P t) fun tt => sSlK P tt (ev ts x) (lo.map (ev ts)) (hi.map (ev ts)) m fun v => k v m := rfl
theorem sOpD_slice0 (t : TypeId) (x hi mx : Operand) : sOpD P d (.slice t x none (some hi) (some mx)) ts m k = ((is0 (some hi) = true ∧ is0 (some mx) = true) ∧ sTI (tiOf P t) fun tt => sSl tt.kind (sTI (tiOf P tt.elem) fun _ => sSlice0 m (ev ts x) fun v => k v m)) := rfl
theorem sOpD_fieldAddr (t : TypeId) (x : Operand) (f : Nat) : sOpD P d (.fieldAddr t x f) ts m k = sTI (tiOf P t) fun ti => sFld ti.fields[f]? fun fd => 0 < fd.2.1 ∧ sField fd.1 m (ev ts x) fun v => k v m := rfl
theorem sOpD_field (t : TypeId) (x : Operand) (f : Nat) : sOpD P d (.field t x f) ts m k = sTI (tiOf P t) fun ti => sFld ti.fields[f]? fun fd => sPartA fd.2.2 fd.2.1 fd.1 (ev ts x) fun v => k v m := rfl
theorem sOpD_indexAddr (t : TypeId) (x i : Operand) : sOpD P d (.indexAddr t x i) ts m k = sTI (tiOf P t) fun tt => sSl tt.kind (sTI (tiOf P tt.elem) fun ti => sIdx ti.sh m (ev ts x) (ev ts i) fun v => k v m) := rfl
theorem sOpD_index (t : TypeId) (x i : Operand) : sOpD P d (.index t x i) ts m k = sTI (tiOf P t) fun tt => (match tt.kind with | .string => True | _ => False) ∧ sIndex (ev ts x) (ev ts i) fun v => k v m := rfl
theorem sOpD_extract (x : Operand) (i : Nat) : sOpD P d (.extract x i) ts m k = sTup i (ev ts x) fun v => k v m := rfl
theorem sOpD_len (t : TypeId) (r : List TypeId) (x : Operand) : sOpD P d (.call ⟨.builtin .len, ⟨[x]⟩, ⟨t :: r⟩⟩) ts m k = sTI (tiOf P t) fun ti => sLen ti.kind m (ev ts x) fun v => k v m := rfl
theorem sOpD_max (tys : Array TypeId) (x y : Operand) : sOpD P d (.call ⟨.builtin .max, ⟨[x, y]⟩, tys⟩) ts m k = sMax (ev ts x) (ev ts y) fun v => k v m := rfl
theorem sOpD_min (tys : Array TypeId) (x y : Operand) : sOpD P d (.call ⟨.builtin .min, ⟨[x, y]⟩, tys⟩) ts m k = sMin (ev ts x) (ev ts y) fun v => k v m := rfl
theorem sOpD_append (tys : List TypeId) (x y : Operand) : sOpD P d (.call ⟨.builtin .append, ⟨[x, y]⟩, ⟨tys⟩⟩) ts m k = sAppT P tys d (ev ts x) (ev ts y) m k := rfl
theorem sOpD_call (f : FuncId) (xs : List Operand) (tys : Array TypeId) : sOpD P d (.call ⟨.value (.func f), ⟨xs⟩, tys⟩) ts m k = sCallD P f d (xs.map (ev ts)) m k := rfl
theorem sOpD_callv (t : Nat) (xs : List Operand) (tys : Array TypeId) : sOpD P d (.call ⟨.value (.tmp t), ⟨xs⟩, tys⟩) ts m k = sCallDV P (look ts t) d (xs.map (ev ts)) m k := rfl
theorem sOpD_makeFunc (f : FuncId) (l : List Operand) : sOpD P d (.makeFunc (.func f) ⟨[]⟩ ⟨l⟩) ts m k = (([] : List Operand) = [] ∧ k (.clo f (l.map (ev ts))) m) := rfl
/- a branch: the simplifier goes on only where the test is decided -/
def Br (c : Bool) (a b : Prop) (_ : Pack (a, b)) : Prop := (c = true → a) ∧ (c = false → b)
theorem Br_true (a b : Prop) {q : Pack (a, b)} : Br true a b q = a := by simp [Br]
theorem Br_false (a b : Prop) {q : Pack (a, b)} : Br false a b q = b := by simp [Br]
theorem Br.intro {c : Bool} {a b : Prop} {q : Pack (a, b)} (ha : c = true → a) (hb : c = false → b) : Br c a b q := ⟨ha, hb⟩
theorem Br.pos {c : Bool} {a b : Prop} {q : Pack (a, b)} (hc : c = true) (ha : a) : Br c a b q := ⟨fun _ => ha, fun h => by rw [hc] at h; cases h⟩
theorem Br.neg {c : Bool} {a b : Prop} {q : Pack (a, b)} (hc : c = false) (hb : b) : Br c a b q := ⟨fun h => (by rw [hc] at h; cases h), fun _ => hb⟩
theorem sIf_eq' (c : Bool) (a b : Prop) : sIf (.val (.bool c)) a b = Br c a b ⟨⟩ := rfl
theorem sPick_eq' (c : Bool) (a b : AV) (k : AV → Prop) : sPick (.val (.bool c)) a b k = Br c (k a) (k b) ⟨⟩ := rfl
theorem sGuard_t' (c : Bool) (a b : Prop) : sGuard true (.val (.bool c)) a b = Br c a b ⟨⟩ := by simp [sGuard, Br]
theorem sGuard_f' (c : Bool) (a b : Prop) : sGuard false (.val (.bool c)) a b = Br c b a ⟨⟩ := by simp only [sGuard_f, Br]; exact propext and_comm
variable (ops : List Oper) (tr : List (List Nat × List Nat)) (K : St)
/- continuations that the simplifier does not enter: they go on only from a value and a memory that are laid out -/
def goOn (r : List Oper) (_ : Pack (P, ops, r, d, ts, K)) (x : AV) (m' : Mem) : Prop := sL P ops r ((d, x) :: ts) m' K
def goQ (r : List Oper) (_ : Pack (P, ops, r, ts, K)) (_ : AV) (m' : Mem) : Prop := sL P ops r ts m' K
def goD (op : Op) (r : List Oper) (_ : Pack (P, ops, r, d, op, ts, m, tr, K)) (x : AV) (m' : Mem) : Prop := sD P ops r ((d, x) :: ts) m' ((rdL op ts, wrL m' m) :: tr) K
def goDQ (op : Op) (r : List Oper) (_ : Pack (P, ops, r, op, ts, m, tr, K)) (_ : AV) (m' : Mem) : Prop := sD P ops r ts m' ((rdL op ts, wrL m' m) :: tr) K
theorem sL_nil' : sL P ops [] ts m K = K ts m := rfl
theorem sL_plain' (op : Op) (ty : TypeId) (p : String) (e : Array Edge) (r : List Oper) : sL P ops (⟨some d, op, ty, p, e, none⟩ :: r) ts m K = sOp P d op ts m (goOn P d ts ops K r ⟨⟩) := rfl
theorem sL_quiet' (op : Op) (ty : TypeId) (p : String) (e : Array Edge) (r : List Oper) : sL P ops (⟨none, op, ty, p, e, none⟩ :: r) ts m K = sOp P 0 op ts m (goQ P ts ops K r ⟨⟩) := rfl
theorem sL_guard' (op : Op) (ty : TypeId) (p : String) (e : Array Edge) (j : Nat) (w : Bool) (r : List Oper) :
    sL P ops (⟨some d, op, ty, p, e, some (j, w)⟩ :: r) ts m K = sGuard w (look ts (dstOf ops j)) (sOp P d op ts m (goOn P d ts ops K r ⟨⟩)) (sL P ops r ((d, .tup []) :: ts) m K) := rfl
theorem sD_nil : sD P ops [] ts m tr K = (drawB ops tr.reverse = true ∧ K ts m) := rfl
theorem sD_plain (op : Op) (ty : TypeId) (p : String) (e : Array Edge) (r : List Oper) :
    sD P ops (⟨some d, op, ty, p, e, none⟩ :: r) ts m tr K = sOpD P d op ts m (goD P d ts m ops tr K op r ⟨⟩) := rfl
theorem sD_quiet (op : Op) (ty : TypeId) (p : String) (e : Array Edge) (r : List Oper) :
    sD P ops (⟨none, op, ty, p, e, none⟩ :: r) ts m tr K = sOpD P 0 op ts m (goDQ P ts m ops tr K op r ⟨⟩) := rfl
theorem sD_guard (op : Op) (ty : TypeId) (p : String) (e : Array Edge) (j : Nat) (w : Bool) (r : List Oper) :
    sD P ops (⟨some d, op, ty, p, e, some (j, w)⟩ :: r) ts m tr K = sGuard w (look ts (dstOf ops j)) (sOpD P d op ts m (goD P d ts m ops tr K op r ⟨⟩))
      (sD P ops r ((d, .tup []) :: ts) m (([], []) :: tr) K) := rfl
theorem goOn_undef0   (r : List Oper) {q : Pack (P, ops, r, d, ts, K)} : goOn P d ts ops K r q (.undef) [] = sL P ops r ((d, .undef) :: ts) [] K := rfl
theorem goQ_undef0   (r : List Oper) {q : Pack (P, ops, r, ts, K)} : goQ P ts ops K r q (.undef) [] = sL P ops r ts [] K := rfl
theorem goD_undef0   (r : List Oper) (op : Op) {q : Pack (P, ops, r, d, op, ts, m, tr, K)} : goD P d ts m ops tr K op r q (.undef) [] = sD P ops r ((d, .undef) :: ts) [] ((rdL op ts, wrL [] m) :: tr) K := rfl
theorem goDQ_undef0   (r : List Oper) (op : Op) {q : Pack (P, ops, r, op, ts, m, tr, K)} : goDQ P ts m ops tr K op r q (.undef) [] = sD P ops r ts [] ((rdL op ts, wrL [] m) :: tr) K := rfl
theorem goOn_undef1  (g : Nat × Blk) (m' : Mem) (r : List Oper) {q : Pack (P, ops, r, d, ts, K)} : goOn P d ts ops K r q (.undef) (g :: m') = sL P ops r ((d, .undef) :: ts) (g :: m') K := rfl
theorem goQ_undef1  (g : Nat × Blk) (m' : Mem) (r : List Oper) {q : Pack (P, ops, r, ts, K)} : goQ P ts ops K r q (.undef) (g :: m') = sL P ops r ts (g :: m') K := rfl
theorem goD_undef1  (g : Nat × Blk) (m' : Mem) (r : List Oper) (op : Op) {q : Pack (P, ops, r, d, op, ts, m, tr, K)} : goD P d ts m ops tr K op r q (.undef) (g :: m') = sD P ops r ((d, .undef) :: ts) (g :: m') ((rdL op ts, wrL (g :: m') m) :: tr) K := rfl
theorem goDQ_undef1  (g : Nat × Blk) (m' : Mem) (r : List Oper) (op : Op) {q : Pack (P, ops, r, op, ts, m, tr, K)} : goDQ P ts m ops tr K op r q (.undef) (g :: m') = sD P ops r ts (g :: m') ((rdL op ts, wrL (g :: m') m) :: tr) K := rfl
theorem goOn_val0 (v : Value)  (r : List Oper) {q : Pack (P, ops, r, d, ts, K)} : goOn P d ts ops K r q (.val v) [] = sL P ops r ((d, .val v) :: ts) [] K := rfl
theorem goQ_val0 (v : Value)  (r : List Oper) {q : Pack (P, ops, r, ts, K)} : goQ P ts ops K r q (.val v) [] = sL P ops r ts [] K := rfl
theorem goD_val0 (v : Value)  (r : List Oper) (op : Op) {q : Pack (P, ops, r, d, op, ts, m, tr, K)} : goD P d ts m ops tr K op r q (.val v) [] = sD P ops r ((d, .val v) :: ts) [] ((rdL op ts, wrL [] m) :: tr) K := rfl
theorem goDQ_val0 (v : Value)  (r : List Oper) (op : Op) {q : Pack (P, ops, r, op, ts, m, tr, K)} : goDQ P ts m ops tr K op r q (.val v) [] = sD P ops r ts [] ((rdL op ts, wrL [] m) :: tr) K := rfl
theorem goOn_val1 (v : Value) (g : Nat × Blk) (m' : Mem) (r : List Oper) {q : Pack (P, ops, r, d, ts, K)} : goOn P d ts ops K r q (.val v) (g :: m') = sL P ops r ((d, .val v) :: ts) (g :: m') K := rfl
theorem goQ_val1 (v : Value) (g : Nat × Blk) (m' : Mem) (r : List Oper) {q : Pack (P, ops, r, ts, K)} : goQ P ts ops K r q (.val v) (g :: m') = sL P ops r ts (g :: m') K := rfl
theorem goD_val1 (v : Value) (g : Nat × Blk) (m' : Mem) (r : List Oper) (op : Op) {q : Pack (P, ops, r, d, op, ts, m, tr, K)} : goD P d ts m ops tr K op r q (.val v) (g :: m') = sD P ops r ((d, .val v) :: ts) (g :: m') ((rdL op ts, wrL (g :: m') m) :: tr) K := rfl
theorem goDQ_val1 (v : Value) (g : Nat × Blk) (m' : Mem) (r : List Oper) (op : Op) {q : Pack (P, ops, r, op, ts, m, tr, K)} : goDQ P ts m ops tr K op r q (.val v) (g :: m') = sD P ops r ts (g :: m') ((rdL op ts, wrL (g :: m') m) :: tr) K := rfl
theorem goOn_e00   (r : List Oper) {q : Pack (P, ops, r, d, ts, K)} : goOn P d ts ops K r q (.e0) [] = sL P ops r ((d, .e0) :: ts) [] K := rfl
theorem goQ_e00   (r : List Oper) {q : Pack (P, ops, r, ts, K)} : goQ P ts ops K r q (.e0) [] = sL P ops r ts [] K := rfl
theorem goD_e00   (r : List Oper) (op : Op) {q : Pack (P, ops, r, d, op, ts, m, tr, K)} : goD P d ts m ops tr K op r q (.e0) [] = sD P ops r ((d, .e0) :: ts) [] ((rdL op ts, wrL [] m) :: tr) K := rfl
theorem goDQ_e00   (r : List Oper) (op : Op) {q : Pack (P, ops, r, op, ts, m, tr, K)} : goDQ P ts m ops tr K op r q (.e0) [] = sD P ops r ts [] ((rdL op ts, wrL [] m) :: tr) K := rfl
theorem goOn_e01  (g : Nat × Blk) (m' : Mem) (r : List Oper) {q : Pack (P, ops, r, d, ts, K)} : goOn P d ts ops K r q (.e0) (g :: m') = sL P ops r ((d, .e0) :: ts) (g :: m') K := rfl
theorem goQ_e01  (g : Nat × Blk) (m' : Mem) (r : List Oper) {q : Pack (P, ops, r, ts, K)} : goQ P ts ops K r q (.e0) (g :: m') = sL P ops r ts (g :: m') K := rfl
theorem goD_e01  (g : Nat × Blk) (m' : Mem) (r : List Oper) (op : Op) {q : Pack (P, ops, r, d, op, ts, m, tr, K)} : goD P d ts m ops tr K op r q (.e0) (g :: m') = sD P ops r ((d, .e0) :: ts) (g :: m') ((rdL op ts, wrL (g :: m') m) :: tr) K := rfl
theorem goDQ_e01  (g : Nat × Blk) (m' : Mem) (r : List Oper) (op : Op) {q : Pack (P, ops, r, op, ts, m, tr, K)} : goDQ P ts m ops tr K op r q (.e0) (g :: m') = sD P ops r ts (g :: m') ((rdL op ts, wrL (g :: m') m) :: tr) K := rfl
theorem goOn_arr0 (sh : Sh) (xs : List AV)  (r : List Oper) {q : Pack (P, ops, r, d, ts, K)} : goOn P d ts ops K r q (.arr sh xs) [] = sL P ops r ((d, .arr sh xs) :: ts) [] K := rfl
theorem goQ_arr0 (sh : Sh) (xs : List AV)  (r : List Oper) {q : Pack (P, ops, r, ts, K)} : goQ P ts ops K r q (.arr sh xs) [] = sL P ops r ts [] K := rfl
theorem goD_arr0 (sh : Sh) (xs : List AV)  (r : List Oper) (op : Op) {q : Pack (P, ops, r, d, op, ts, m, tr, K)} : goD P d ts m ops tr K op r q (.arr sh xs) [] = sD P ops r ((d, .arr sh xs) :: ts) [] ((rdL op ts, wrL [] m) :: tr) K := rfl
theorem goDQ_arr0 (sh : Sh) (xs : List AV)  (r : List Oper) (op : Op) {q : Pack (P, ops, r, op, ts, m, tr, K)} : goDQ P ts m ops tr K op r q (.arr sh xs) [] = sD P ops r ts [] ((rdL op ts, wrL [] m) :: tr) K := rfl
theorem goOn_arr1 (sh : Sh) (xs : List AV) (g : Nat × Blk) (m' : Mem) (r : List Oper) {q : Pack (P, ops, r, d, ts, K)} : goOn P d ts ops K r q (.arr sh xs) (g :: m') = sL P ops r ((d, .arr sh xs) :: ts) (g :: m') K := rfl
theorem goQ_arr1 (sh : Sh) (xs : List AV) (g : Nat × Blk) (m' : Mem) (r : List Oper) {q : Pack (P, ops, r, ts, K)} : goQ P ts ops K r q (.arr sh xs) (g :: m') = sL P ops r ts (g :: m') K := rfl
theorem goD_arr1 (sh : Sh) (xs : List AV) (g : Nat × Blk) (m' : Mem) (r : List Oper) (op : Op) {q : Pack (P, ops, r, d, op, ts, m, tr, K)} : goD P d ts m ops tr K op r q (.arr sh xs) (g :: m') = sD P ops r ((d, .arr sh xs) :: ts) (g :: m') ((rdL op ts, wrL (g :: m') m) :: tr) K := rfl
theorem goDQ_arr1 (sh : Sh) (xs : List AV) (g : Nat × Blk) (m' : Mem) (r : List Oper) (op : Op) {q : Pack (P, ops, r, op, ts, m, tr, K)} : goDQ P ts m ops tr K op r q (.arr sh xs) (g :: m') = sD P ops r ts (g :: m') ((rdL op ts, wrL (g :: m') m) :: tr) K := rfl
theorem goOn_agg0 (xs : List AV)  (r : List Oper) {q : Pack (P, ops, r, d, ts, K)} : goOn P d ts ops K r q (.agg xs) [] = sL P ops r ((d, .agg xs) :: ts) [] K := rfl
theorem goQ_agg0 (xs : List AV)  (r : List Oper) {q : Pack (P, ops, r, ts, K)} : goQ P ts ops K r q (.agg xs) [] = sL P ops r ts [] K := rfl
theorem goD_agg0 (xs : List AV)  (r : List Oper) (op : Op) {q : Pack (P, ops, r, d, op, ts, m, tr, K)} : goD P d ts m ops tr K op r q (.agg xs) [] = sD P ops r ((d, .agg xs) :: ts) [] ((rdL op ts, wrL [] m) :: tr) K := rfl
theorem goDQ_agg0 (xs : List AV)  (r : List Oper) (op : Op) {q : Pack (P, ops, r, op, ts, m, tr, K)} : goDQ P ts m ops tr K op r q (.agg xs) [] = sD P ops r ts [] ((rdL op ts, wrL [] m) :: tr) K := rfl
theorem goOn_agg1 (xs : List AV) (g : Nat × Blk) (m' : Mem) (r : List Oper) {q : Pack (P, ops, r, d, ts, K)} : goOn P d ts ops K r q (.agg xs) (g :: m') = sL P ops r ((d, .agg xs) :: ts) (g :: m') K := rfl
theorem goQ_agg1 (xs : List AV) (g : Nat × Blk) (m' : Mem) (r : List Oper) {q : Pack (P, ops, r, ts, K)} : goQ P ts ops K r q (.agg xs) (g :: m') = sL P ops r ts (g :: m') K := rfl
theorem goD_agg1 (xs : List AV) (g : Nat × Blk) (m' : Mem) (r : List Oper) (op : Op) {q : Pack (P, ops, r, d, op, ts, m, tr, K)} : goD P d ts m ops tr K op r q (.agg xs) (g :: m') = sD P ops r ((d, .agg xs) :: ts) (g :: m') ((rdL op ts, wrL (g :: m') m) :: tr) K := rfl
theorem goDQ_agg1 (xs : List AV) (g : Nat × Blk) (m' : Mem) (r : List Oper) (op : Op) {q : Pack (P, ops, r, op, ts, m, tr, K)} : goDQ P ts m ops tr K op r q (.agg xs) (g :: m') = sD P ops r ts (g :: m') ((rdL op ts, wrL (g :: m') m) :: tr) K := rfl
theorem goOn_tup0 (xs : List AV)  (r : List Oper) {q : Pack (P, ops, r, d, ts, K)} : goOn P d ts ops K r q (.tup xs) [] = sL P ops r ((d, .tup xs) :: ts) [] K := rfl
theorem goQ_tup0 (xs : List AV)  (r : List Oper) {q : Pack (P, ops, r, ts, K)} : goQ P ts ops K r q (.tup xs) [] = sL P ops r ts [] K := rfl
theorem goD_tup0 (xs : List AV)  (r : List Oper) (op : Op) {q : Pack (P, ops, r, d, op, ts, m, tr, K)} : goD P d ts m ops tr K op r q (.tup xs) [] = sD P ops r ((d, .tup xs) :: ts) [] ((rdL op ts, wrL [] m) :: tr) K := rfl
theorem goDQ_tup0 (xs : List AV)  (r : List Oper) (op : Op) {q : Pack (P, ops, r, op, ts, m, tr, K)} : goDQ P ts m ops tr K op r q (.tup xs) [] = sD P ops r ts [] ((rdL op ts, wrL [] m) :: tr) K := rfl
theorem goOn_tup1 (xs : List AV) (g : Nat × Blk) (m' : Mem) (r : List Oper) {q : Pack (P, ops, r, d, ts, K)} : goOn P d ts ops K r q (.tup xs) (g :: m') = sL P ops r ((d, .tup xs) :: ts) (g :: m') K := rfl
theorem goQ_tup1 (xs : List AV) (g : Nat × Blk) (m' : Mem) (r : List Oper) {q : Pack (P, ops, r, ts, K)} : goQ P ts ops K r q (.tup xs) (g :: m') = sL P ops r ts (g :: m') K := rfl
theorem goD_tup1 (xs : List AV) (g : Nat × Blk) (m' : Mem) (r : List Oper) (op : Op) {q : Pack (P, ops, r, d, op, ts, m, tr, K)} : goD P d ts m ops tr K op r q (.tup xs) (g :: m') = sD P ops r ((d, .tup xs) :: ts) (g :: m') ((rdL op ts, wrL (g :: m') m) :: tr) K := rfl
theorem goDQ_tup1 (xs : List AV) (g : Nat × Blk) (m' : Mem) (r : List Oper) (op : Op) {q : Pack (P, ops, r, op, ts, m, tr, K)} : goDQ P ts m ops tr K op r q (.tup xs) (g :: m') = sD P ops r ts (g :: m') ((rdL op ts, wrL (g :: m') m) :: tr) K := rfl
theorem goOn_ref0 (l v i n : Nat)  (r : List Oper) {q : Pack (P, ops, r, d, ts, K)} : goOn P d ts ops K r q (.ref l v i n) [] = sL P ops r ((d, .ref l v i n) :: ts) [] K := rfl
theorem goQ_ref0 (l v i n : Nat)  (r : List Oper) {q : Pack (P, ops, r, ts, K)} : goQ P ts ops K r q (.ref l v i n) [] = sL P ops r ts [] K := rfl
theorem goD_ref0 (l v i n : Nat)  (r : List Oper) (op : Op) {q : Pack (P, ops, r, d, op, ts, m, tr, K)} : goD P d ts m ops tr K op r q (.ref l v i n) [] = sD P ops r ((d, .ref l v i n) :: ts) [] ((rdL op ts, wrL [] m) :: tr) K := rfl
theorem goDQ_ref0 (l v i n : Nat)  (r : List Oper) (op : Op) {q : Pack (P, ops, r, op, ts, m, tr, K)} : goDQ P ts m ops tr K op r q (.ref l v i n) [] = sD P ops r ts [] ((rdL op ts, wrL [] m) :: tr) K := rfl
theorem goOn_ref1 (l v i n : Nat) (g : Nat × Blk) (m' : Mem) (r : List Oper) {q : Pack (P, ops, r, d, ts, K)} : goOn P d ts ops K r q (.ref l v i n) (g :: m') = sL P ops r ((d, .ref l v i n) :: ts) (g :: m') K := rfl
theorem goQ_ref1 (l v i n : Nat) (g : Nat × Blk) (m' : Mem) (r : List Oper) {q : Pack (P, ops, r, ts, K)} : goQ P ts ops K r q (.ref l v i n) (g :: m') = sL P ops r ts (g :: m') K := rfl
theorem goD_ref1 (l v i n : Nat) (g : Nat × Blk) (m' : Mem) (r : List Oper) (op : Op) {q : Pack (P, ops, r, d, op, ts, m, tr, K)} : goD P d ts m ops tr K op r q (.ref l v i n) (g :: m') = sD P ops r ((d, .ref l v i n) :: ts) (g :: m') ((rdL op ts, wrL (g :: m') m) :: tr) K := rfl
theorem goDQ_ref1 (l v i n : Nat) (g : Nat × Blk) (m' : Mem) (r : List Oper) (op : Op) {q : Pack (P, ops, r, op, ts, m, tr, K)} : goDQ P ts m ops tr K op r q (.ref l v i n) (g :: m') = sD P ops r ts (g :: m') ((rdL op ts, wrL (g :: m') m) :: tr) K := rfl
theorem goOn_ptr0 (l v i j : Nat)  (r : List Oper) {q : Pack (P, ops, r, d, ts, K)} : goOn P d ts ops K r q (.ptr l v i j) [] = sL P ops r ((d, .ptr l v i j) :: ts) [] K := rfl
theorem goQ_ptr0 (l v i j : Nat)  (r : List Oper) {q : Pack (P, ops, r, ts, K)} : goQ P ts ops K r q (.ptr l v i j) [] = sL P ops r ts [] K := rfl
theorem goD_ptr0 (l v i j : Nat)  (r : List Oper) (op : Op) {q : Pack (P, ops, r, d, op, ts, m, tr, K)} : goD P d ts m ops tr K op r q (.ptr l v i j) [] = sD P ops r ((d, .ptr l v i j) :: ts) [] ((rdL op ts, wrL [] m) :: tr) K := rfl
theorem goDQ_ptr0 (l v i j : Nat)  (r : List Oper) (op : Op) {q : Pack (P, ops, r, op, ts, m, tr, K)} : goDQ P ts m ops tr K op r q (.ptr l v i j) [] = sD P ops r ts [] ((rdL op ts, wrL [] m) :: tr) K := rfl
theorem goOn_ptr1 (l v i j : Nat) (g : Nat × Blk) (m' : Mem) (r : List Oper) {q : Pack (P, ops, r, d, ts, K)} : goOn P d ts ops K r q (.ptr l v i j) (g :: m') = sL P ops r ((d, .ptr l v i j) :: ts) (g :: m') K := rfl
theorem goQ_ptr1 (l v i j : Nat) (g : Nat × Blk) (m' : Mem) (r : List Oper) {q : Pack (P, ops, r, ts, K)} : goQ P ts ops K r q (.ptr l v i j) (g :: m') = sL P ops r ts (g :: m') K := rfl
theorem goD_ptr1 (l v i j : Nat) (g : Nat × Blk) (m' : Mem) (r : List Oper) (op : Op) {q : Pack (P, ops, r, d, op, ts, m, tr, K)} : goD P d ts m ops tr K op r q (.ptr l v i j) (g :: m') = sD P ops r ((d, .ptr l v i j) :: ts) (g :: m') ((rdL op ts, wrL (g :: m') m) :: tr) K := rfl
theorem goDQ_ptr1 (l v i j : Nat) (g : Nat × Blk) (m' : Mem) (r : List Oper) (op : Op) {q : Pack (P, ops, r, op, ts, m, tr, K)} : goDQ P ts m ops tr K op r q (.ptr l v i j) (g :: m') = sD P ops r ts (g :: m') ((rdL op ts, wrL (g :: m') m) :: tr) K := rfl
theorem goOn_eptr0 (sh : Sh) (xs : List AV) (i j : Nat)  (r : List Oper) {q : Pack (P, ops, r, d, ts, K)} : goOn P d ts ops K r q (.eptr sh xs i j) [] = sL P ops r ((d, .eptr sh xs i j) :: ts) [] K := rfl
theorem goQ_eptr0 (sh : Sh) (xs : List AV) (i j : Nat)  (r : List Oper) {q : Pack (P, ops, r, ts, K)} : goQ P ts ops K r q (.eptr sh xs i j) [] = sL P ops r ts [] K := rfl
theorem goD_eptr0 (sh : Sh) (xs : List AV) (i j : Nat)  (r : List Oper) (op : Op) {q : Pack (P, ops, r, d, op, ts, m, tr, K)} : goD P d ts m ops tr K op r q (.eptr sh xs i j) [] = sD P ops r ((d, .eptr sh xs i j) :: ts) [] ((rdL op ts, wrL [] m) :: tr) K := rfl
theorem goDQ_eptr0 (sh : Sh) (xs : List AV) (i j : Nat)  (r : List Oper) (op : Op) {q : Pack (P, ops, r, op, ts, m, tr, K)} : goDQ P ts m ops tr K op r q (.eptr sh xs i j) [] = sD P ops r ts [] ((rdL op ts, wrL [] m) :: tr) K := rfl
theorem goOn_eptr1 (sh : Sh) (xs : List AV) (i j : Nat) (g : Nat × Blk) (m' : Mem) (r : List Oper) {q : Pack (P, ops, r, d, ts, K)} : goOn P d ts ops K r q (.eptr sh xs i j) (g :: m') = sL P ops r ((d, .eptr sh xs i j) :: ts) (g :: m') K := rfl
theorem goQ_eptr1 (sh : Sh) (xs : List AV) (i j : Nat) (g : Nat × Blk) (m' : Mem) (r : List Oper) {q : Pack (P, ops, r, ts, K)} : goQ P ts ops K r q (.eptr sh xs i j) (g :: m') = sL P ops r ts (g :: m') K := rfl
theorem goD_eptr1 (sh : Sh) (xs : List AV) (i j : Nat) (g : Nat × Blk) (m' : Mem) (r : List Oper) (op : Op) {q : Pack (P, ops, r, d, op, ts, m, tr, K)} : goD P d ts m ops tr K op r q (.eptr sh xs i j) (g :: m') = sD P ops r ((d, .eptr sh xs i j) :: ts) (g :: m') ((rdL op ts, wrL (g :: m') m) :: tr) K := rfl
theorem goDQ_eptr1 (sh : Sh) (xs : List AV) (i j : Nat) (g : Nat × Blk) (m' : Mem) (r : List Oper) (op : Op) {q : Pack (P, ops, r, op, ts, m, tr, K)} : goDQ P ts m ops tr K op r q (.eptr sh xs i j) (g :: m') = sD P ops r ts (g :: m') ((rdL op ts, wrL (g :: m') m) :: tr) K := rfl
theorem goOn_clo0 (f : FuncId) (xs : List AV)  (r : List Oper) {q : Pack (P, ops, r, d, ts, K)} : goOn P d ts ops K r q (.clo f xs) [] = sL P ops r ((d, .clo f xs) :: ts) [] K := rfl
theorem goQ_clo0 (f : FuncId) (xs : List AV)  (r : List Oper) {q : Pack (P, ops, r, ts, K)} : goQ P ts ops K r q (.clo f xs) [] = sL P ops r ts [] K := rfl
theorem goD_clo0 (f : FuncId) (xs : List AV)  (r : List Oper) (op : Op) {q : Pack (P, ops, r, d, op, ts, m, tr, K)} : goD P d ts m ops tr K op r q (.clo f xs) [] = sD P ops r ((d, .clo f xs) :: ts) [] ((rdL op ts, wrL [] m) :: tr) K := rfl
theorem goDQ_clo0 (f : FuncId) (xs : List AV)  (r : List Oper) (op : Op) {q : Pack (P, ops, r, op, ts, m, tr, K)} : goDQ P ts m ops tr K op r q (.clo f xs) [] = sD P ops r ts [] ((rdL op ts, wrL [] m) :: tr) K := rfl
theorem goOn_clo1 (f : FuncId) (xs : List AV) (g : Nat × Blk) (m' : Mem) (r : List Oper) {q : Pack (P, ops, r, d, ts, K)} : goOn P d ts ops K r q (.clo f xs) (g :: m') = sL P ops r ((d, .clo f xs) :: ts) (g :: m') K := rfl
theorem goQ_clo1 (f : FuncId) (xs : List AV) (g : Nat × Blk) (m' : Mem) (r : List Oper) {q : Pack (P, ops, r, ts, K)} : goQ P ts ops K r q (.clo f xs) (g :: m') = sL P ops r ts (g :: m') K := rfl
theorem goD_clo1 (f : FuncId) (xs : List AV) (g : Nat × Blk) (m' : Mem) (r : List Oper) (op : Op) {q : Pack (P, ops, r, d, op, ts, m, tr, K)} : goD P d ts m ops tr K op r q (.clo f xs) (g :: m') = sD P ops r ((d, .clo f xs) :: ts) (g :: m') ((rdL op ts, wrL (g :: m') m) :: tr) K := rfl
theorem goDQ_clo1 (f : FuncId) (xs : List AV) (g : Nat × Blk) (m' : Mem) (r : List Oper) (op : Op) {q : Pack (P, ops, r, op, ts, m, tr, K)} : goDQ P ts m ops tr K op r q (.clo f xs) (g :: m') = sD P ops r ts (g :: m') ((rdL op ts, wrL (g :: m') m) :: tr) K := rfl
end
attribute [go_sem ↓] vc_skip vc_region vc_draw vc_seq vc_cond vc_block vc_loop vc_exit vc_ret sL_nil' sL_plain' sL_quiet'
attribute [go_sem ↓] sL_guard' sOp_move sOp_assign sOp_pick sOp_alloc sOp_box sOp_build sOp_buildSlice sOp_load sOp_store sOp_nilCheck sOp_binOp
attribute [go_sem ↓] sOp_not sOp_neg sOp_convert sOp_makeSlice sOp_slice sOp_slice0 sOp_fieldAddr sOp_field sOp_indexAddr sOp_index sOp_extract sOp_len
attribute [go_sem ↓] sOp_max sOp_min sOp_append sOp_call sOp_callv sOp_makeFunc sOpD_move sOpD_assign sOpD_pick sOpD_alloc sOpD_box sOpD_build
attribute [go_sem ↓] sOpD_buildSlice sOpD_load sOpD_store sOpD_nilCheck sOpD_binOp sOpD_not sOpD_neg sOpD_convert sOpD_makeSlice sOpD_slice sOpD_slice0 sOpD_fieldAddr
attribute [go_sem ↓] sOpD_field sOpD_indexAddr sOpD_index sOpD_extract sOpD_len sOpD_max sOpD_min sOpD_append sOpD_callv sOpD_makeFunc sOpD_call sD_nil
attribute [go_sem ↓] sD_plain sD_quiet sD_guard
attribute [go_sem] goOn_undef0 goQ_undef0 goD_undef0 goDQ_undef0 goOn_undef1 goQ_undef1 goD_undef1 goDQ_undef1 goOn_val0 goQ_val0 goD_val0 goDQ_val0
attribute [go_sem] goOn_val1 goQ_val1 goD_val1 goDQ_val1 goOn_e00 goQ_e00 goD_e00 goDQ_e00 goOn_e01 goQ_e01 goD_e01 goDQ_e01
attribute [go_sem] goOn_arr0 goQ_arr0 goD_arr0 goDQ_arr0 goOn_arr1 goQ_arr1 goD_arr1 goDQ_arr1 goOn_agg0 goQ_agg0 goD_agg0 goDQ_agg0
attribute [go_sem] goOn_agg1 goQ_agg1 goD_agg1 goDQ_agg1 goOn_tup0 goQ_tup0 goD_tup0 goDQ_tup0 goOn_tup1 goQ_tup1 goD_tup1 goDQ_tup1
attribute [go_sem] goOn_ref0 goQ_ref0 goD_ref0 goDQ_ref0 goOn_ref1 goQ_ref1 goD_ref1 goDQ_ref1 goOn_ptr0 goQ_ptr0 goD_ptr0 goDQ_ptr0
attribute [go_sem] goOn_ptr1 goQ_ptr1 goD_ptr1 goDQ_ptr1 goOn_eptr0 goQ_eptr0 goD_eptr0 goDQ_eptr0 goOn_eptr1 goQ_eptr1 goD_eptr1 goDQ_eptr1
attribute [go_sem] goOn_clo0 goQ_clo0 goD_clo0 goDQ_clo0 goOn_clo1 goQ_clo1 goD_clo1 goDQ_clo1
attribute [go_sem] Br_true Br_false sIf_eq' sPick_eq' sGuard_t' sGuard_f'
attribute [go_sem ↓] look_nil look_cons lookB_nil lookB_cons TI.sh_eq cAV_int cAV_bool cAV_string cAV_slice cAV_pointer cAV_nilFunc cAV_nilIface
attribute [go_sem ↓] cAV_agg ev_tmp ev_const ev_func sTI_some sOpt_some sWrap_i64 sWrap_u64 sWrap_u8 sWrap_i32 sBin_int sBin_str
attribute [go_sem ↓] sBin_beq sBin_bne iB_add iB_sub iB_mul iB_quo iB_rem iB_eql iB_neq iB_lss iB_leq iB_gtr
attribute [go_sem ↓] iB_geq iB_shr iB_and sB_add sB_eql sB_neq sNot_eq sNeg_eq sConv_int sConv_string sMax_eq sMin_eq
attribute [go_sem ↓] sTup_eq sPart_agg sPart_cell sPart_val sPart_arr sPart_e0 sPart_ref sPart_ptr isFlat_val isFlat_e0 isFlat_agg isFlat_arr
attribute [go_sem ↓] isFlat_ref isFlatL_nil isFlatL_cons sUndeep_flat sUndeep_no sUndeep_yes sLoadB_boxA sLoadB_box sLoadB_row sLoad_ptr sLoad_eptr sLend_flat
attribute [go_sem ↓] sLend_no sLend_yes sLoadI_lend sLoadI_true sLoadI_box sLoadI_row sLoadX_ptr sLoadX_eptr sLive_box sLive_row sField_ptr sField_eptr
attribute [go_sem ↓] sLen_arr sLen_e0 sLen_nil sLen_str sLen_ref sFld_some sIndex_eq sCells_agg sCells_val sCells_e0 sCells_arr sCells_ref
attribute [go_sem ↓] sCells_ptr sCells_clo sCells_eptr setL_nil setL_cons sPut_agg sPut_cell sPut_val sStoreB_box sStoreB_rowV sStoreB_rowA sStore_ptr
attribute [go_sem ↓] sMvB_row sStoreR_row sStoreR_box sStoreX_ref sStoreX_val sStoreX_agg sStoreX_arr sStoreX_e0 sStoreX_ptr sStoreX_clo sStoreX_eptr sFK_some
attribute [go_sem ↓] sCellE_int sCellE_bool sCellE_string sAggE_nil sAggE_cons sEqR_eql sEqR_neq sOptB_some sBinS_agg sBinS_fn sBinS_int sBinS_bool
attribute [go_sem ↓] sBinS_string sBinS_slice sBinS_pointer sBinS_nilIface sBinS_iface sBinS_arr sBinS_ref sBinS_e0 sBinS_ptr sBox_eq newVer_eq verOf_none
attribute [go_sem ↓] verOf_box verOf_row verOf_gone zlen_agg zlen_val fits_agg fits_val fits_arr sMake_eq sSrcB_row sSrc_arr sSrc_ref
attribute [go_sem ↓] sSrc_e0 sSrc_nil sAppB_row sApp1_ref sApp1_e0 sApp1_nil sBnd_none sBnd_some sRSh_row sSlice_str sSlice_arr sSlice_ref
attribute [go_sem ↓] sSlice0_arr sSlice0_ref sSlice0_e0 sSlice0_nil sFill_nil sFill_cons sBuild_eq sFillR_nil sFillR_cons sBuildSlice_eq sRowT_row sLeafT_ref
attribute [go_sem ↓] sLeafT_val sLeafT_e0 sLeafT_arr sLeavesT_nil sLeavesT_cons sTree_clo sTree_ptr sTree_agg sTree_ref sTree_val sTree_e0 sTree_arr
attribute [go_sem ↓] sTrees_nil sTrees_cons sMatL_arr sMatL_val sMatL_e0 sMats_nil sMats_cons sMatA_agg sMatA_arr sMatA_val sMatA_e0 sMatTs_nil
attribute [go_sem ↓] sMatTs_cons sMat_tup sMat_agg sMat_arr sMat_val sMat_e0 noLabs_nil noLabs_cons sRes_own sRes_shared sCall_eq sCall_nil
attribute [go_sem ↓] sSl_slice sSt_struct sNil_ptr sNil_eptr sNil_clo sSlK_str sSlK_arr sSlK_ref sIdx_arr sIdx_ref sAppT_eq sApp_eq
attribute [go_sem ↓] sPartA_agg sNilB_arr sNilB_ref sNilB_e0 sNilB_nil cst_const cst_tmp sIfc_en sIfc_nn sIfc_ei sIfc_ni sBinN_eql
attribute [go_sem ↓] sBinN_neq sBinN_iface sBinN_int sBinN_bool sBinN_string sBinN_struct sCallV_clo sBytesL_nil sBytesL_cons sBytesL_map sBytes_arr isU8_eq
attribute [go_sem ↓] sChr_int sConvX_bytes sConvX_chr sConvX_int sConvX_str sGuard_u putE_some putE_none dstOf_cons dstOf_zero thn_normal thn_ret
attribute [go_sem ↓] thn_exit blk_normal blk_ret blk_exit verIs_row verIs_box noBlk_none noBlk_gone refArr_eq refV_undef refV_val refV_e0
attribute [go_sem ↓] refV_arr refV_refArr refV_e0Arr refV_nilArr refV_ref refV_e0Ref refV_nilRef refV_ptr refC_nil refC_cons refV1_clo refV1_undef
attribute [go_sem ↓] refV1_val refV1_e0 refV1_arr refV1_ref refV1_ptr refV1_eptr refL_nil refL_cons leaf_val leaf_e0 leaf_arr leaf_ref
attribute [go_sem ↓] leaf_clo leaf_ptr refA_clo refA_agg refA_undef refA_val refA_e0 refA_arr refA_ref refA_ptr refE_nil refE_cons
attribute [go_sem ↓] refB_row refB_box refB_none refB_gone refM_nil refM_cons sameVer_rr sameVer_bb keepIo_eq refK_nil refK_cons refS_eq
attribute [go_sem ↓] sCellRB_agg sCellRB_cell sCellR_ptr sResults_nil sResults_tmp sResults_cell sOwnB_row sOwnL_val sOwnL_e0 sOwnL_ref sOwnLs_nil sOwnLs_cons
attribute [go_sem ↓] sOwnA_agg sOwnA_val sOwnA_e0 sOwnA_ref sOwnAs_nil sOwnAs_cons mkRes_one mkRes_nil mkRes_two fin_normal fin_ret argsE_nil
attribute [go_sem ↓] argsE_cons ioM_nil ioM_cons lookB_ioM sIo1_row sIo1_box sIoB_nil sIoB_cons finM_normal finM_ret sPos_cons sRen_ref
attribute [go_sem ↓] sRen_ptr sRen_val sRen_e0 sRen_arr sRen_eptr sRenL_nil sRenL_cons sRenA_agg sRenA_ref sRenA_ptr sRenA_val sRenA_e0
attribute [go_sem ↓] sRenA_arr sRenA_eptr sRens_nil sRens_cons notIn_nil notIn_cons sSel1_row sSel1_box sSel_nil sSel_cons putIo_cons putIo_nil
attribute [go_sem ↓] lookB_putIo finI_normal finI_ret allHi_nil allHi_cons hasB_some freeB_none rnsM_nil rnsM_cons rnsA_nil rnsA_cons rnsL_nil
attribute [go_sem ↓] rnsL_cons rnsMb_nil rnsMb_cons rnsAb_nil rnsAb_cons renOk_nil renOk_cons lowOk_nil lowOk_cons inF_nil inF_cons lowP_nil
attribute [go_sem ↓] lowP_cons rnsM_low nl_nil nl_e0 nl_int nl_bool nl_string nl_arr nlL_nil nlL_cons nlA_agg nlA_nil
attribute [go_sem ↓] nlA_e0 nlA_int nlA_bool nlA_string nlA_arr nlAs_nil nlAs_cons nlT_tup nlT_agg nlT_nil nlT_e0 nlT_int
attribute [go_sem ↓] nlT_bool nlT_string nlT_arr ver_row ver_box sCallD_eq sCallD_nil sCallDV_clo
attribute [go_sem] sTI_some sOpt_some sWrap_i64 sWrap_u64 sWrap_u8 sWrap_i32 sBin_int sBin_str sBin_beq sBin_bne sB_add sB_eql
attribute [go_sem] sB_neq sNot_eq sNeg_eq sConv_int sConv_string sMax_eq sMin_eq sTup_eq sPart_agg sPart_cell sPart_val sPart_arr
attribute [go_sem] sPart_e0 sPart_ref sPart_ptr sUndeep_flat sUndeep_no sUndeep_yes sLoadB_boxA sLoadB_box sLoadB_row sLoad_ptr sLoad_eptr sLend_flat
attribute [go_sem] sLend_no sLend_yes sLoadI_lend sLoadI_true sLoadI_box sLoadI_row sLoadX_ptr sLoadX_eptr sLive_box sLive_row sField_ptr sField_eptr
attribute [go_sem] sLen_arr sLen_e0 sLen_nil sLen_str sLen_ref sFld_some sIndex_eq sCells_agg sCells_val sCells_e0 sCells_arr sCells_ref
attribute [go_sem] sCells_ptr sCells_clo sCells_eptr sPut_agg sPut_cell sPut_val sStoreB_box sStoreB_rowV sStoreB_rowA sStore_ptr sMvB_row sStoreR_row
attribute [go_sem] sStoreR_box sStoreX_ref sStoreX_val sStoreX_agg sStoreX_arr sStoreX_e0 sStoreX_ptr sStoreX_clo sStoreX_eptr sFK_some sCellE_int sCellE_bool
attribute [go_sem] sCellE_string sAggE_nil sAggE_cons sEqR_eql sEqR_neq sOptB_some sBinS_agg sBinS_fn sBinS_int sBinS_bool sBinS_string sBinS_slice
attribute [go_sem] sBinS_pointer sBinS_nilIface sBinS_iface sBinS_arr sBinS_ref sBinS_e0 sBinS_ptr sBox_eq sMake_eq sSrcB_row sSrc_arr sSrc_ref
attribute [go_sem] sSrc_e0 sSrc_nil sAppB_row sApp1_ref sApp1_e0 sApp1_nil sBnd_none sBnd_some sRSh_row sSlice_str sSlice_arr sSlice_ref
attribute [go_sem] sSlice0_arr sSlice0_ref sSlice0_e0 sSlice0_nil sFill_nil sFill_cons sBuild_eq sFillR_nil sFillR_cons sBuildSlice_eq labs_val labs_e0
attribute [go_sem] labs_arr labs_eptr labs_agg labs_ref labs_ptr labsL_nil labsL_cons sRowT_row sLeafT_ref sLeafT_val sLeafT_e0 sLeafT_arr
attribute [go_sem] sLeavesT_nil sLeavesT_cons sTree_clo sTree_ptr sTree_agg sTree_ref sTree_val sTree_e0 sTree_arr sTrees_nil sTrees_cons sMatL_arr
attribute [go_sem] sMatL_val sMatL_e0 sMats_nil sMats_cons sMatA_agg sMatA_arr sMatA_val sMatA_e0 sMatTs_nil sMatTs_cons sMat_tup sMat_agg
attribute [go_sem] sMat_arr sMat_val sMat_e0 sRes_own sRes_shared sCall_eq sCall_nil sSl_slice sSt_struct sNil_ptr sNil_eptr sNil_clo
attribute [go_sem] sSlK_str sSlK_arr sSlK_ref sIdx_arr sIdx_ref sAppT_eq sApp_eq sPartA_agg sNilB_arr sNilB_ref sNilB_e0 sNilB_nil
attribute [go_sem] sIfc_en sIfc_nn sIfc_ei sIfc_ni sBinN_eql sBinN_neq sBinN_iface sBinN_int sBinN_bool sBinN_string sBinN_struct sCallV_clo
attribute [go_sem] sBytesL_nil sBytesL_cons sBytesL_map sBytes_arr sChr_int sConvX_bytes sConvX_chr sConvX_int sConvX_str sGuard_u sCellRB_agg sCellRB_cell
attribute [go_sem] sCellR_ptr sResults_nil sResults_tmp sResults_cell sOwnB_row sOwnL_val sOwnL_e0 sOwnL_ref sOwnLs_nil sOwnLs_cons sOwnA_agg sOwnA_val
attribute [go_sem] sOwnA_e0 sOwnA_ref sOwnAs_nil sOwnAs_cons sIo1_row sIo1_box sIoB_nil sIoB_cons sPos_cons sRen_ref sRen_ptr sRen_val
attribute [go_sem] sRen_e0 sRen_arr sRen_eptr sRenL_nil sRenL_cons sRenA_agg sRenA_ref sRenA_ptr sRenA_val sRenA_e0 sRenA_arr sRenA_eptr
attribute [go_sem] sRens_nil sRens_cons sSel1_row sSel1_box sSel_nil sSel_cons sCallD_eq sCallD_nil sCallDV_clo
attribute [go_sem] List.getElem?_cons_zero List.getElem?_cons_succ List.getElem?_nil List.map_cons List.map_nil List.length_cons List.length_nil List.drop_zero List.drop_succ_cons List.take_zero List.take_succ_cons List.take_nil List.drop_nil List.set_cons_zero List.set_cons_succ Nat.zero_add Nat.add_zero
attribute [go_sem] List.length_map List.getElem?_map Option.map_some Bool.true_and Bool.false_and
attribute [go_sem] is0 List.reverse_cons List.reverse_nil List.nil_append List.cons_append Bool.true_eq_false Bool.false_eq_true false_implies implies_true and_true true_and forall_const true_implies
end Go.Vc
