/-
  What the operations do to the abstract state: definitions, and the equations by which they are reckoned.
-/
import Derived.Test.YtlelhmbhhnokoaaDoorVcStep
set_option linter.unusedVariables false
set_option linter.unusedSimpArgs false
set_option linter.unnecessarySimpa false
namespace Go.Vc

inductive TK where
  | int (k : IntKind)
  | bool
  | string
  | slice
  | struct
  | iface
  | other

structure TI where
  agg : Bool
  size : Nat
  bytes : Nat
  zero : AV
  fields : List (Nat × Nat × Bool)
  elem : Nat
  kind : TK

def TI.sh (t : TI) : Sh := ⟨t.size, t.agg⟩
theorem TI.sh_eq (a : Bool) (s b : Nat) (z : AV) (f : List (Nat × Nat × Bool)) (e : Nat) (k : TK) : TI.sh ⟨a, s, b, z, f, e, k⟩ = ⟨s, a⟩ := rfl

/-- A constant as an abstract value. -/
def cAV : Value → AV
  | .agg cs => if cs.toList.all Value.oneCell' then .agg (cs.toList.map .val) else .undef
  | .tuple _ => .undef
  | v => .val v
theorem cAV_int (k : IntKind) (n : Int) : cAV (.int k n) = .val (.int k n) := rfl
theorem cAV_bool (b : Bool) : cAV (.bool b) = .val (.bool b) := rfl
theorem cAV_string (s : ByteArray) : cAV (.string s) = .val (.string s) := rfl
theorem cAV_slice (a : Option Addr) (n c : Nat) : cAV (.slice a n c) = .val (.slice a n c) := rfl
theorem cAV_pointer (a : Option Addr) : cAV (.pointer a) = .val (.pointer a) := rfl
theorem cAV_nilFunc : cAV .nilFunc = .val .nilFunc := rfl
theorem cAV_nilIface : cAV .nilIface = .val .nilIface := rfl
theorem cAV_agg (l : List Value) : cAV (.agg ⟨l⟩) = if l.all Value.oneCell' then .agg (l.map .val) else .undef := rfl

def aggOf (P : Program) (t : TypeId) : Bool := match P.underlying t with | some (.struct _) | some (.array _ _) => true | _ => false
def sizeOf' (P : Program) (t : TypeId) : Nat := match P.info? t with | some i => i.size | none => 0

def fieldsOkB (P : Program) (d : TypeDesc) : Bool := match d with | .struct fs => fs.toList.all fun f => (P.info? f.type).isSome && (P.underlying f.type).isSome | _ => true

def tiOf (P : Program) (t : TypeId) : Option TI :=
  match P.info? t, P.underlying t with
  | some i, some d =>
    match i.zero with
    | some z => if fieldsOkB P d = false then none else some {
        agg := aggOf P t, size := i.size, bytes := i.bytes, zero := cAV z,
        fields := (match d with | .struct fs => fs.toList.map fun f => (f.offset, sizeOf' P f.type, aggOf P f.type) | _ => []),
        elem := (match d with | .slice e => e | _ => 0),
        kind := (match d with | .int k => .int k | .bool => .bool | .string => .string | .slice _ => .slice | .struct _ => .struct | .interface _ => .iface | _ => .other) }
    | none => none
  | _, _ => none

def ev (ts : Env) : Operand → AV
  | .tmp t => look ts t
  | .const v => cAV v
  | .global _ => .undef
  | .func f => .clo f []
theorem ev_tmp (ts : Env) (t : Nat) : ev ts (.tmp t) = look ts t := rfl
theorem ev_const (ts : Env) (v : Value) : ev ts (.const v) = cAV v := rfl
theorem ev_func (ts : Env) (f : FuncId) : ev ts (.func f) = .clo f [] := rfl

def I64 (n : Int) : Prop := -9223372036854775808 ≤ n ∧ n ≤ 9223372036854775807

/- ---- control in continuation form: the argument that is looked at comes first -/
def sTI (x : Option TI) (k : TI → Prop) : Prop := match x with | some t => k t | none => False
@[congr] theorem sTI_congr {x x' : Option TI} {k : TI → Prop} (h : x = x') : sTI x k = sTI x' k := by rw [h]
theorem sTI_some (t : TI) (k : TI → Prop) : sTI (some t) k = k t := rfl
def sOpt (x : Option AV) (k : AV → Prop) : Prop := match x with | some v => k v | none => False
@[congr] theorem sOpt_congr {x x' : Option AV} {k : AV → Prop} (h : x = x') : sOpt x k = sOpt x' k := by rw [h]
theorem sOpt_some (v : AV) (k : AV → Prop) : sOpt (some v) k = k v := rfl
def sIf (c : AV) (a b : Prop) : Prop := match c with | .val (.bool c) => (c = true → a) ∧ (c = false → b) | _ => False
@[congr] theorem sIf_congr {c c' : AV} {a b : Prop} (h : c = c') : sIf c a b = sIf c' a b := by rw [h]
theorem sIf_eq (c : Bool) (a b : Prop) : sIf (.val (.bool c)) a b = ((c = true → a) ∧ (c = false → b)) := rfl
def sPick (c a b : AV) (k : AV → Prop) : Prop := match c with | .val (.bool c) => (c = true → k a) ∧ (c = false → k b) | _ => False
@[congr] theorem sPick_congr {c c' a b : AV} {k : AV → Prop} (h : c = c') : sPick c a b k = sPick c' a b k := by rw [h]
theorem sPick_eq (c : Bool) (a b : AV) (k : AV → Prop) : sPick (.val (.bool c)) a b k = ((c = true → k a) ∧ (c = false → k b)) := rfl

/- ---- numbers, bools, strings -/
/-- An integer's result: over i64 nothing may wrap. -/
def sWrap (k : IntKind) (n : Int) (c : AV → Prop) : Prop := match k with | .i64 => I64 n ∧ c (.val (.int .i64 n)) | k => c (.val (.int k (k.wrap n)))
theorem sWrap_i64 (n : Int) (c : AV → Prop) : sWrap .i64 n c = (I64 n ∧ c (.val (.int .i64 n))) := rfl
theorem sWrap_u64 (n : Int) (c : AV → Prop) : sWrap .u64 n c = c (.val (.int .u64 (IntKind.u64.wrap n))) := rfl
theorem sWrap_u8 (n : Int) (c : AV → Prop) : sWrap .u8 n c = c (.val (.int .u8 (IntKind.u8.wrap n))) := rfl
theorem sWrap_i32 (n : Int) (c : AV → Prop) : sWrap .i32 n c = c (.val (.int .i32 (IntKind.i32.wrap n))) := rfl

def intBin (op : BinOp) (i : IntKind) (x y : Int) (k : AV → Prop) : Prop :=
  match op with
  | .add => sWrap i (x + y) k
  | .sub => sWrap i (x - y) k
  | .mul => sWrap i (x * y) k
  | .quo => y ≠ 0 ∧ sWrap i (x.tdiv y) k
  | .rem => y ≠ 0 ∧ k (.val (.int i (x.tmod y)))
  | .eql => k (.val (.bool (x == y)))
  | .neq => k (.val (.bool (x != y)))
  | .lss => k (.val (.bool (decide (x < y))))
  | .leq => k (.val (.bool (decide (x ≤ y))))
  | .gtr => k (.val (.bool (decide (x > y))))
  | .geq => k (.val (.bool (decide (x ≥ y))))
  | .shr => 0 ≤ y ∧ k (.val (.int i (x.fdiv (2 ^ (min y.toNat i.bits)))))
  | .and => k (.val (.int i (i.wrap (BitVec.ofInt i.bits x &&& BitVec.ofInt i.bits y).toNat)))
  | _ => False

def strBin (op : BinOp) (x y : ByteArray) (k : AV → Prop) : Prop :=
  match op with
  | .add => x.size + y.size ≤ 9223372036854775807 ∧ k (.val (.string (x ++ y)))
  | .eql => k (.val (.bool (x.toList == y.toList)))
  | .neq => k (.val (.bool (!(x.toList == y.toList))))
  | _ => False

def sBin (op : BinOp) (kd : TK) (a b : AV) (k : AV → Prop) : Prop :=
  match a, b with
  | .val (.int i x), .val (.int j y) => i = j ∧ intBin op i x y k
  | .val (.string x), .val (.string y) => strBin op x y k
  | .val (.bool x), .val (.bool y) => match op, kd with | .eql, .bool => k (.val (.bool (x == y))) | .neq, .bool => k (.val (.bool (!(x == y)))) | _, _ => False
  | _, _ => False
@[congr] theorem sBin_congr {op : BinOp} {kd : TK} {a b a' b' : AV} {k : AV → Prop} (h : a = a') (h' : b = b') : sBin op kd a b k = sBin op kd a' b' k := by rw [h, h']
theorem sBin_int (op : BinOp) (kd : TK) (i : IntKind) (x y : Int) (k : AV → Prop) : sBin op kd (.val (.int i x)) (.val (.int i y)) k = intBin op i x y k := by simp [sBin]
theorem sBin_str (op : BinOp) (kd : TK) (x y : ByteArray) (k : AV → Prop) : sBin op kd (.val (.string x)) (.val (.string y)) k = strBin op x y k := rfl
theorem sBin_beq (x y : Bool) (k : AV → Prop) : sBin .eql .bool (.val (.bool x)) (.val (.bool y)) k = k (.val (.bool (x == y))) := rfl
theorem sBin_bne (x y : Bool) (k : AV → Prop) : sBin .neq .bool (.val (.bool x)) (.val (.bool y)) k = k (.val (.bool (!(x == y)))) := rfl
section
variable (i : IntKind) (x y : Int) (k : AV → Prop)
theorem iB_add : intBin .add i x y k = sWrap i (x + y) k := rfl
theorem iB_sub : intBin .sub i x y k = sWrap i (x - y) k := rfl
theorem iB_mul : intBin .mul i x y k = sWrap i (x * y) k := rfl
theorem iB_quo : intBin .quo i x y k = (y ≠ 0 ∧ sWrap i (x.tdiv y) k) := rfl
theorem iB_rem : intBin .rem i x y k = (y ≠ 0 ∧ k (.val (.int i (x.tmod y)))) := rfl
theorem iB_eql : intBin .eql i x y k = k (.val (.bool (x == y))) := rfl
theorem iB_neq : intBin .neq i x y k = k (.val (.bool (x != y))) := rfl
theorem iB_lss : intBin .lss i x y k = k (.val (.bool (decide (x < y)))) := rfl
theorem iB_leq : intBin .leq i x y k = k (.val (.bool (decide (x ≤ y)))) := rfl
theorem iB_gtr : intBin .gtr i x y k = k (.val (.bool (decide (x > y)))) := rfl
theorem iB_geq : intBin .geq i x y k = k (.val (.bool (decide (x ≥ y)))) := rfl
theorem iB_shr : intBin .shr i x y k = (0 ≤ y ∧ k (.val (.int i (x.fdiv (2 ^ (min y.toNat i.bits)))))) := rfl
theorem iB_and : intBin .and i x y k = k (.val (.int i (i.wrap (BitVec.ofInt i.bits x &&& BitVec.ofInt i.bits y).toNat))) := rfl
theorem sB_add (x y : ByteArray) : strBin .add x y k = (x.size + y.size ≤ 9223372036854775807 ∧ k (.val (.string (x ++ y)))) := rfl
theorem sB_eql (x y : ByteArray) : strBin .eql x y k = k (.val (.bool (x.toList == y.toList))) := rfl
theorem sB_neq (x y : ByteArray) : strBin .neq x y k = k (.val (.bool (!(x.toList == y.toList)))) := rfl
end

def sNot (a : AV) (k : AV → Prop) : Prop := match a with | .val (.bool b) => k (.val (.bool (!b))) | _ => False
@[congr] theorem sNot_congr {a a' : AV} {k : AV → Prop} (h : a = a') : sNot a k = sNot a' k := by rw [h]
theorem sNot_eq (b : Bool) (k : AV → Prop) : sNot (.val (.bool b)) k = k (.val (.bool (!b))) := rfl
def sNeg (a : AV) (k : AV → Prop) : Prop := match a with | .val (.int i n) => sWrap i (0 - n) k | _ => False
@[congr] theorem sNeg_congr {a a' : AV} {k : AV → Prop} (h : a = a') : sNeg a k = sNeg a' k := by rw [h]
theorem sNeg_eq (i : IntKind) (n : Int) (k : AV → Prop) : sNeg (.val (.int i n)) k = sWrap i (0 - n) k := rfl

def sConv (dst : TK) (x : AV) (k : AV → Prop) : Prop :=
  match dst, x with
  | .int i, .val (.int _ n) => sWrap i n k
  | .string, .val (.string s) => k (.val (.string s))
  | _, _ => False
@[congr] theorem sConv_congr {d : TK} {x x' : AV} {k : AV → Prop} (h : x = x') : sConv d x k = sConv d x' k := by rw [h]
theorem sConv_int (i j : IntKind) (n : Int) (k : AV → Prop) : sConv (.int i) (.val (.int j n)) k = sWrap i n k := rfl
theorem sConv_string (s : ByteArray) (k : AV → Prop) : sConv .string (.val (.string s)) k = k (.val (.string s)) := rfl

def sMax (a b : AV) (k : AV → Prop) : Prop := match a, b with | .val (.int i x), .val (.int _ y) => k (.val (.int i (if y > x then y else x))) | _, _ => False
@[congr] theorem sMax_congr {a b a' b' : AV} {k : AV → Prop} (h : a = a') (h' : b = b') : sMax a b k = sMax a' b' k := by rw [h, h']
theorem sMax_eq (i j : IntKind) (x y : Int) (k : AV → Prop) : sMax (.val (.int i x)) (.val (.int j y)) k = k (.val (.int i (if y > x then y else x))) := rfl
def sMin (a b : AV) (k : AV → Prop) : Prop := match a, b with | .val (.int i x), .val (.int _ y) => k (.val (.int i (if y < x then y else x))) | _, _ => False
@[congr] theorem sMin_congr {a b a' b' : AV} {k : AV → Prop} (h : a = a') (h' : b = b') : sMin a b k = sMin a' b' k := by rw [h, h']
theorem sMin_eq (i j : IntKind) (x y : Int) (k : AV → Prop) : sMin (.val (.int i x)) (.val (.int j y)) k = k (.val (.int i (if y < x then y else x))) := rfl

/- ---- aggregates, tuples, lengths -/
def sTup (i : Nat) (x : AV) (k : AV → Prop) : Prop := match x with | .tup xs => sOpt xs[i]? k | _ => False
@[congr] theorem sTup_congr {i : Nat} {x x' : AV} {k : AV → Prop} (h : x = x') : sTup i x k = sTup i x' k := by rw [h]
theorem sTup_eq (i : Nat) (xs : List AV) (k : AV → Prop) : sTup i (.tup xs) k = sOpt xs[i]? k := rfl

/-- The part of an aggregate (or the whole leaf) that a variable of type ti at cell j holds. -/
def sPart (ag : Bool) (n j : Nat) (x : AV) (k : AV → Prop) : Prop :=
  match ag, x with
  | true, .agg ys => j + n ≤ ys.length ∧ k (.agg ((ys.drop j).take n))
  | false, .agg ys => sOpt ys[j]? k
  | false, .undef => False
  | false, .tup _ => False
  | false, y => j = 0 ∧ k y
  | _, _ => False
@[congr] theorem sPart_congr {ag : Bool} {n j : Nat} {x x' : AV} {k : AV → Prop} (h : x = x') : sPart ag n j x k = sPart ag n j x' k := by rw [h]
theorem sPart_agg (n j : Nat) (ys : List AV) (k : AV → Prop) : sPart true n j (.agg ys) k = (j + n ≤ ys.length ∧ k (.agg ((ys.drop j).take n))) := rfl
theorem sPart_cell (n j : Nat) (ys : List AV) (k : AV → Prop) : sPart false n j (.agg ys) k = sOpt ys[j]? k := rfl
theorem sPart_val (n : Nat) (v : Value) (k : AV → Prop) : sPart false n 0 (.val v) k = k (.val v) := by simp [sPart]
theorem sPart_arr (n : Nat) (sh : Sh) (xs : List AV) (k : AV → Prop) : sPart false n 0 (.arr sh xs) k = k (.arr sh xs) := by simp [sPart]
theorem sPart_e0 (n : Nat) (k : AV → Prop) : sPart false n 0 .e0 k = k .e0 := by simp [sPart]
theorem sPart_ref (n l v i c : Nat) (k : AV → Prop) : sPart false n 0 (.ref l v i c) k = k (.ref l v i c) := by simp [sPart]
theorem sPart_ptr (n l v i c : Nat) (k : AV → Prop) : sPart false n 0 (.ptr l v i c) k = k (.ptr l v i c) := by simp [sPart]

/- flat: nothing in it lies in memory (but strings) -/
mutual
def isFlat : AV → Bool
  | .val _ => true
  | .e0 => true
  | .agg xs => isFlatL xs
  | _ => false
def isFlatL : List AV → Bool
  | [] => true
  | x :: r => isFlat x && isFlatL r
end
theorem isFlat_val (v : Value) : isFlat (.val v) = true := rfl
theorem isFlat_e0 : isFlat .e0 = true := rfl
theorem isFlat_agg (xs : List AV) : isFlat (.agg xs) = isFlatL xs := rfl
theorem isFlat_arr (sh : Sh) (xs : List AV) : isFlat (.arr sh xs) = false := rfl
theorem isFlat_ref (l v i n : Nat) : isFlat (.ref l v i n) = false := rfl
theorem isFlatL_nil : isFlatL [] = true := rfl
theorem isFlatL_cons (x : AV) (r : List AV) : isFlatL (x :: r) = (isFlat x && isFlatL r) := rfl

/- ---- memory -/
def sUndeep (deep fl : Bool) (l : Nat) (b : Blk) (m : Mem) (k : Mem → Prop) : Prop := if deep = true ∧ fl = false then l < ioL ∧ k ((l, b) :: m) else k m
@[congr] theorem sUndeep_congr {deep fl fl' : Bool} {l : Nat} {b : Blk} {m : Mem} {k : Mem → Prop} (h : fl = fl') : sUndeep deep fl l b m k = sUndeep deep fl' l b m k := by rw [h]
theorem sUndeep_flat (deep : Bool) (l : Nat) (b : Blk) (m : Mem) (k : Mem → Prop) : sUndeep deep true l b m k = k m := by simp [sUndeep]
theorem sUndeep_no (fl : Bool) (l : Nat) (b : Blk) (m : Mem) (k : Mem → Prop) : sUndeep false fl l b m k = k m := by simp [sUndeep]
theorem sUndeep_yes (l : Nat) (b : Blk) (m : Mem) (k : Mem → Prop) : sUndeep true false l b m k = (l < ioL ∧ k ((l, b) :: m)) := by simp [sUndeep]

def sLoadB (ag : Bool) (n : Nat) (l ver i j : Nat) (b : Option Blk) (m : Mem) (k : AV → Mem → Prop) : Prop :=
  match b with
  | some (.box v xs) => v = ver ∧ i = 0 ∧ (if ag then j + n ≤ xs.length ∧ k (.agg ((xs.drop j).take n)) m else sOpt xs[j]? fun y => k y m)
  | some (.row v sh deep xs) => v = ver ∧ sOpt xs[i]? fun x => sPart ag n j x fun y => sUndeep deep (isFlat x) l (.row v sh false xs) m fun m' => k y m'
  | _ => False
@[congr] theorem sLoadB_congr {ag : Bool} {n l ver i j : Nat} {b b' : Option Blk} {m : Mem} {k : AV → Mem → Prop} (h : b = b') : sLoadB ag n l ver i j b m k = sLoadB ag n l ver i j b' m k := by rw [h]
theorem sLoadB_boxA (n l v j : Nat) (xs : List AV) (m : Mem) (k : AV → Mem → Prop) :
    sLoadB true n l v 0 j (some (.box v xs)) m k = (j + n ≤ xs.length ∧ k (.agg ((xs.drop j).take n)) m) := by simp [sLoadB]
theorem sLoadB_box (n l v j : Nat) (xs : List AV) (m : Mem) (k : AV → Mem → Prop) :
    sLoadB false n l v 0 j (some (.box v xs)) m k = sOpt xs[j]? fun y => k y m := by simp [sLoadB]
theorem sLoadB_row (ag : Bool) (n l v i j : Nat) (sh : Sh) (deep : Bool) (xs : List AV) (m : Mem) (k : AV → Mem → Prop) :
    sLoadB ag n l v i j (some (.row v sh deep xs)) m k = sOpt xs[i]? fun x => sPart ag n j x fun y => sUndeep deep (isFlat x) l (.row v sh false xs) m fun m' => k y m' := by simp [sLoadB]

def sLoad (ag : Bool) (n : Nat) (p : AV) (m : Mem) (k : AV → Mem → Prop) : Prop :=
  match p with
  | .ptr l ver i j => sLoadB ag n l ver i j (lookB m l) m k
  | .eptr _ xs i j => sOpt xs[i]? fun x => sPart ag n j x fun y => k y m
  | _ => False
@[congr] theorem sLoad_congr {ag : Bool} {n : Nat} {p p' : AV} {m : Mem} {k : AV → Mem → Prop} (h : p = p') : sLoad ag n p m k = sLoad ag n p' m k := by rw [h]
theorem sLoad_ptr (ag : Bool) (n l ver i j : Nat) (m : Mem) (k : AV → Mem → Prop) : sLoad ag n (.ptr l ver i j) m k = sLoadB ag n l ver i j (lookB m l) m k := rfl
theorem sLoad_eptr (ag : Bool) (n : Nat) (sh : Sh) (xs : List AV) (i j : Nat) (m : Mem) (k : AV → Mem → Prop) :
    sLoad ag n (.eptr sh xs i j) m k = sOpt xs[i]? fun x => sPart ag n j x fun y => k y m := rfl

/- Loads from a caller's block: a row that lies in a row is lent out. -/
def sLend (dp fl : Bool) (x : AV) (l v : Nat) (xs : List AV) (i : Nat) (m : Mem) (k : AV → Mem → Prop) : Prop :=
  if dp = true ∧ fl = false then ∀ u, k (.val u) ((l, .lent v xs i u) :: m) else k x m
@[congr] theorem sLend_congr {dp fl fl' : Bool} {x : AV} {l v : Nat} {xs : List AV} {i : Nat} {m : Mem} {k : AV → Mem → Prop} (h : fl = fl') : sLend dp fl x l v xs i m k = sLend dp fl' x l v xs i m k := by rw [h]
theorem sLend_flat (dp : Bool) (x : AV) (l v : Nat) (xs : List AV) (i : Nat) (m : Mem) (k : AV → Mem → Prop) : sLend dp true x l v xs i m k = k x m := by simp [sLend]
theorem sLend_no (fl : Bool) (x : AV) (l v : Nat) (xs : List AV) (i : Nat) (m : Mem) (k : AV → Mem → Prop) : sLend false fl x l v xs i m k = k x m := by simp [sLend]
theorem sLend_yes (x : AV) (l v : Nat) (xs : List AV) (i : Nat) (m : Mem) (k : AV → Mem → Prop) : sLend true false x l v xs i m k = ∀ u, k (.val u) ((l, .lent v xs i u) :: m) := by simp [sLend]
def sLoadI (ag : Bool) (n l ver i j : Nat) (b : Option Blk) (m : Mem) (k : AV → Mem → Prop) : Prop :=
  match ag, b with
  | false, some (.row v ⟨1, false⟩ dp xs) => v = ver ∧ sOpt xs[i]? fun x => sPart false n j x fun y => sLend dp (isFlat x) y l v xs i m k
  | ag, b => sLoadB ag n l ver i j b m k
@[congr] theorem sLoadI_congr {ag : Bool} {n l ver i j : Nat} {b b' : Option Blk} {m : Mem} {k : AV → Mem → Prop} (h : b = b') : sLoadI ag n l ver i j b m k = sLoadI ag n l ver i j b' m k := by rw [h]
theorem sLoadI_lend (n l v i j : Nat) (dp : Bool) (xs : List AV) (m : Mem) (k : AV → Mem → Prop) :
    sLoadI false n l v i j (some (.row v ⟨1, false⟩ dp xs)) m k = sOpt xs[i]? fun x => sPart false n j x fun y => sLend dp (isFlat x) y l v xs i m k := by simp [sLoadI]
theorem sLoadI_true (n l v i j : Nat) (b : Blk) (m : Mem) (k : AV → Mem → Prop) : sLoadI true n l v i j (some b) m k = sLoadB true n l v i j (some b) m k := rfl
theorem sLoadI_box (ag : Bool) (n l v i j v' : Nat) (xs : List AV) (m : Mem) (k : AV → Mem → Prop) : sLoadI ag n l v i j (some (.box v' xs)) m k = sLoadB ag n l v i j (some (.box v' xs)) m k := by cases ag <;> rfl
theorem sLoadI_row (ag : Bool) (n l v i j v' s : Nat) (d : Bool) (xs : List AV) (m : Mem) (k : AV → Mem → Prop) :
    sLoadI ag n l v i j (some (.row v' ⟨s, true⟩ d xs)) m k = sLoadB ag n l v i j (some (.row v' ⟨s, true⟩ d xs)) m k := by
  unfold sLoadI; split
  · rename_i h; simp at h
  · rfl
def sLoadX (ag : Bool) (n : Nat) (p : AV) (m : Mem) (k : AV → Mem → Prop) : Prop :=
  match p with
  | .ptr l ver i j => if l < ioL then sLoadB ag n l ver i j (lookB m l) m k else sLoadI ag n l ver i j (lookB m l) m k
  | .eptr _ xs i j => sOpt xs[i]? fun x => sPart ag n j x fun y => k y m
  | _ => False
@[congr] theorem sLoadX_congr {ag : Bool} {n : Nat} {p p' : AV} {m : Mem} {k : AV → Mem → Prop} (h : p = p') : sLoadX ag n p m k = sLoadX ag n p' m k := by rw [h]
theorem sLoadX_ptr (ag : Bool) (n l ver i j : Nat) (m : Mem) (k : AV → Mem → Prop) : sLoadX ag n (.ptr l ver i j) m k = if l < ioL then sLoadB ag n l ver i j (lookB m l) m k else sLoadI ag n l ver i j (lookB m l) m k := rfl
theorem sLoadX_eptr (ag : Bool) (n : Nat) (sh : Sh) (xs : List AV) (i j : Nat) (m : Mem) (k : AV → Mem → Prop) :
    sLoadX ag n (.eptr sh xs i j) m k = sOpt xs[i]? fun x => sPart ag n j x fun y => k y m := rfl

def sLive (v : Nat) (b : Option Blk) (k : Prop) : Prop := match b with
  | some (.box v' _) => v' = v ∧ k
  | some (.row v' _ _ _) => v' = v ∧ k
  | _ => False
@[congr] theorem sLive_congr {v : Nat} {b b' : Option Blk} {k : Prop} (h : b = b') : sLive v b k = sLive v b' k := by rw [h]
theorem sLive_box (v : Nat) (xs : List AV) (k : Prop) : sLive v (some (.box v xs)) k = k := by simp [sLive]
theorem sLive_row (v : Nat) (sh : Sh) (d : Bool) (xs : List AV) (k : Prop) : sLive v (some (.row v sh d xs)) k = k := by simp [sLive]
def sField (j : Nat) (m : Mem) (p : AV) (k : AV → Prop) : Prop := match p with
  | .ptr l v i j' => sLive v (lookB m l) (k (.ptr l v i (j' + j)))
  | .eptr sh xs i j' => k (.eptr sh xs i (j' + j))
  | _ => False
@[congr] theorem sField_congr {j : Nat} {m : Mem} {p p' : AV} {k : AV → Prop} (h : p = p') : sField j m p k = sField j m p' k := by rw [h]
theorem sField_ptr (j : Nat) (m : Mem) (l v i j' : Nat) (k : AV → Prop) : sField j m (.ptr l v i j') k = sLive v (lookB m l) (k (.ptr l v i (j' + j))) := rfl
theorem sField_eptr (j : Nat) (m : Mem) (sh : Sh) (xs : List AV) (i j' : Nat) (k : AV → Prop) : sField j m (.eptr sh xs i j') k = k (.eptr sh xs i (j' + j)) := rfl
def sLen (kd : TK) (m : Mem) (x : AV) (k : AV → Prop) : Prop := match kd, x with
  | .slice, .arr _ xs => k (.val (.int .i64 xs.length))
  | .slice, .ref l v _ n => sLive v (lookB m l) (k (.val (.int .i64 n)))
  | .slice, .e0 => k (.val (.int .i64 0))
  | .slice, .val (.slice _ n _) => k (.val (.int .i64 n))
  | .string, .val (.string s) => k (.val (.int .i64 s.size))
  | _, _ => False
@[congr] theorem sLen_congr {kd : TK} {m : Mem} {x x' : AV} {k : AV → Prop} (h : x = x') : sLen kd m x k = sLen kd m x' k := by rw [h]
theorem sLen_arr (m : Mem) (sh : Sh) (xs : List AV) (k : AV → Prop) : sLen .slice m (.arr sh xs) k = k (.val (.int .i64 xs.length)) := rfl
theorem sLen_e0 (m : Mem) (k : AV → Prop) : sLen .slice m .e0 k = k (.val (.int .i64 0)) := rfl
theorem sLen_nil (m : Mem) (a : Option Addr) (n c : Nat) (k : AV → Prop) : sLen .slice m (.val (.slice a n c)) k = k (.val (.int .i64 n)) := rfl
theorem sLen_str (m : Mem) (s : ByteArray) (k : AV → Prop) : sLen .string m (.val (.string s)) k = k (.val (.int .i64 s.size)) := rfl

theorem sLen_ref (m : Mem) (l v i n : Nat) (k : AV → Prop) : sLen .slice m (.ref l v i n) k = sLive v (lookB m l) (k (.val (.int .i64 n))) := rfl

def sFld (f : Option (Nat × Nat × Bool)) (k : Nat × Nat × Bool → Prop) : Prop := match f with | some f => k f | none => False
@[congr] theorem sFld_congr {f f' : Option (Nat × Nat × Bool)} {k : Nat × Nat × Bool → Prop} (h : f = f') : sFld f k = sFld f' k := by rw [h]
theorem sFld_some (f : Nat × Nat × Bool) (k : Nat × Nat × Bool → Prop) : sFld (some f) k = k f := rfl

/-- s[i] of a string -/
def sIndex (x i : AV) (k : AV → Prop) : Prop := match x, i with
  | .val (.string s), .val (.int _ i) => (0 ≤ i ∧ i < s.size) ∧ k (.val (.int .u8 (s.data.toList.getD i.toNat 0).toNat))
  | _, _ => False
@[congr] theorem sIndex_congr {x x' i i' : AV} {k : AV → Prop} (h : x = x') (h' : i = i') : sIndex x i k = sIndex x' i' k := by rw [h, h']
theorem sIndex_eq (s : ByteArray) (j : IntKind) (i : Int) (k : AV → Prop) :
    sIndex (.val (.string s)) (.val (.int j i)) k = ((0 ≤ i ∧ i < s.size) ∧ k (.val (.int .u8 (s.data.toList.getD i.toNat 0).toNat))) := rfl

/-- the cells of a value that may be stored -/
def sCells (x : AV) (k : List AV → Prop) : Prop := match x with
  | .agg xs => k xs
  | .undef => False
  | .tup _ => False
  | y => k [y]
@[congr] theorem sCells_congr {x x' : AV} {k : List AV → Prop} (h : x = x') : sCells x k = sCells x' k := by rw [h]
theorem sCells_agg (xs : List AV) (k : List AV → Prop) : sCells (.agg xs) k = k xs := rfl
theorem sCells_val (v : Value) (k : List AV → Prop) : sCells (.val v) k = k [.val v] := rfl
theorem sCells_e0 (k : List AV → Prop) : sCells .e0 k = k [.e0] := rfl
theorem sCells_arr (sh : Sh) (xs : List AV) (k : List AV → Prop) : sCells (.arr sh xs) k = k [.arr sh xs] := rfl
theorem sCells_ref (l v i n : Nat) (k : List AV → Prop) : sCells (.ref l v i n) k = k [.ref l v i n] := rfl
theorem sCells_ptr (l v i n : Nat) (k : List AV → Prop) : sCells (.ptr l v i n) k = k [.ptr l v i n] := rfl
theorem sCells_clo (f : FuncId) (xs : List AV) (k : List AV → Prop) : sCells (.clo f xs) k = k [.clo f xs] := rfl
theorem sCells_eptr (sh : Sh) (xs : List AV) (i j : Nat) (k : List AV → Prop) : sCells (.eptr sh xs i j) k = k [.eptr sh xs i j] := rfl

def setL (xs : List AV) (j : Nat) : List AV → List AV
  | [] => xs
  | y :: ys => setL (xs.set j y) (j + 1) ys
theorem setL_nil (xs : List AV) (j : Nat) : setL xs j [] = xs := rfl
theorem setL_cons (xs : List AV) (j : Nat) (y : AV) (ys : List AV) : setL xs j (y :: ys) = setL (xs.set j y) (j + 1) ys := rfl

/-- an element with a part of it stored anew -/
def sPut (j : Nat) (x y : AV) (k : AV → Prop) : Prop := match x, y with
  | .agg zs, .agg ys => j + ys.length ≤ zs.length ∧ k (.agg (setL zs j ys))
  | .agg zs, y => j < zs.length ∧ k (.agg (zs.set j y))
  | _, .agg _ => False
  | _, y => j = 0 ∧ k y
@[congr] theorem sPut_congr {j : Nat} {x x' y y' : AV} {k : AV → Prop} (h : x = x') (h' : y = y') : sPut j x y k = sPut j x' y' k := by rw [h, h']
theorem sPut_agg (j : Nat) (zs ys : List AV) (k : AV → Prop) : sPut j (.agg zs) (.agg ys) k = (j + ys.length ≤ zs.length ∧ k (.agg (setL zs j ys))) := rfl
theorem sPut_cell (j : Nat) (zs : List AV) (v : Value) (k : AV → Prop) : sPut j (.agg zs) (.val v) k = (j < zs.length ∧ k (.agg (zs.set j (.val v)))) := rfl
theorem sPut_val (u v : Value) (k : AV → Prop) : sPut 0 (.val u) (.val v) k = k (.val v) := by simp [sPut]

def sStoreB (l ver i j : Nat) (b : Option Blk) (y : AV) (m : Mem) (n : Nat) (k : Mem → Prop) : Prop :=
  match b with
  | some (.box v xs) => v = ver ∧ i = 0 ∧ sCells y fun ys => ys.length = n ∧ j + ys.length ≤ xs.length ∧ k ((l, .box v (setL xs j ys)) :: m)
  | some (.row v sh deep xs) => v = ver ∧ isFlat y = true ∧ sOpt xs[i]? fun x => isFlat x = true ∧ (match y with | .agg ys => ys.length = n | _ => n = 1) ∧ sPut j x y fun x' => k ((l, .row v sh deep (xs.set i x')) :: m)
  | _ => False
@[congr] theorem sStoreB_congr {l ver i j n : Nat} {b b' : Option Blk} {y y' : AV} {m : Mem} {k : Mem → Prop} (h : b = b') (h' : y = y') : sStoreB l ver i j b y m n k = sStoreB l ver i j b' y' m n k := by rw [h, h']
theorem sStoreB_box (l v j : Nat) (xs : List AV) (y : AV) (m : Mem) (n : Nat) (k : Mem → Prop) :
    sStoreB l v 0 j (some (.box v xs)) y m n k = sCells y fun ys => ys.length = n ∧ j + ys.length ≤ xs.length ∧ k ((l, .box v (setL xs j ys)) :: m) := by simp [sStoreB]
theorem sStoreB_rowV (l v i j : Nat) (sh : Sh) (deep : Bool) (xs : List AV) (u : Value) (m : Mem) (k : Mem → Prop) :
    sStoreB l v i j (some (.row v sh deep xs)) (.val u) m 1 k = sOpt xs[i]? fun x => isFlat x = true ∧ sPut j x (.val u) fun x' => k ((l, .row v sh deep (xs.set i x')) :: m) := by simp [sStoreB, isFlat]
theorem sStoreB_rowA (l v i j : Nat) (sh : Sh) (deep : Bool) (xs ys : List AV) (m : Mem) (n : Nat) (k : Mem → Prop) :
    sStoreB l v i j (some (.row v sh deep xs)) (.agg ys) m n k = (isFlatL ys = true ∧ sOpt xs[i]? fun x => isFlat x = true ∧ ys.length = n ∧ sPut j x (.agg ys) fun x' => k ((l, .row v sh deep (xs.set i x')) :: m)) := by simp [sStoreB, isFlat]

def sStore (n : Nat) (p y : AV) (m : Mem) (k : Mem → Prop) : Prop := match p with
  | .ptr l ver i j => sStoreB l ver i j (lookB m l) y m n k
  | _ => False
@[congr] theorem sStore_congr {n : Nat} {p p' y : AV} {m : Mem} {k : Mem → Prop} (h : p = p') : sStore n p y m k = sStore n p' y m k := by rw [h]
theorem sStore_ptr (n l ver i j : Nat) (y : AV) (m : Mem) (k : Mem → Prop) : sStore n (.ptr l ver i j) y m k = sStoreB l ver i j (lookB m l) y m n k := rfl

/- A row that is ours, put into a deep row: it is a part of that row from then on. -/
def sMvB (v2 n2 : Nat) (b : Option Blk) (k : AV → Prop) : Prop := match b with
  | some (.row v sh2 true ys) => v = v2 ∧ 0 < sh2.sz ∧ n2 ≤ ys.length ∧ k (.arr sh2 (ys.take n2))
  | _ => False
@[congr] theorem sMvB_congr {v2 n2 : Nat} {b b' : Option Blk} {k : AV → Prop} (h : b = b') : sMvB v2 n2 b k = sMvB v2 n2 b' k := by rw [h]
theorem sMvB_row (v n2 : Nat) (sh2 : Sh) (ys : List AV) (k : AV → Prop) : sMvB v n2 (some (.row v sh2 true ys)) k = (0 < sh2.sz ∧ n2 ≤ ys.length ∧ k (.arr sh2 (ys.take n2))) := by simp [sMvB]
def sStoreR (l ver i j : Nat) (b : Option Blk) (l2 v2 i2 n2 : Nat) (m : Mem) (n : Nat) (k : Mem → Prop) : Prop := match b with
  | some (.row v ⟨1, false⟩ true xs) => v = ver ∧ (n = 1 ∧ j = 0 ∧ i2 = 0 ∧ i < xs.length ∧ l2 ≠ l ∧ l2 < ioL) ∧ sMvB v2 n2 (lookB m l2) fun arr => k ((l, .row v ⟨1, false⟩ true (xs.set i arr)) :: (l2, .gone v2) :: m)
  | b => sStoreB l ver i j b (.ref l2 v2 i2 n2) m n k
@[congr] theorem sStoreR_congr {l ver i j : Nat} {b b' : Option Blk} {l2 v2 i2 n2 : Nat} {m : Mem} {n : Nat} {k : Mem → Prop} (h : b = b') : sStoreR l ver i j b l2 v2 i2 n2 m n k = sStoreR l ver i j b' l2 v2 i2 n2 m n k := by rw [h]
theorem sStoreR_row (l v i l2 v2 n2 : Nat) (xs : List AV) (m : Mem) (k : Mem → Prop) : sStoreR l v i 0 (some (.row v ⟨1, false⟩ true xs)) l2 v2 0 n2 m 1 k =
    ((i < xs.length ∧ l2 ≠ l ∧ l2 < ioL) ∧ sMvB v2 n2 (lookB m l2) fun arr => k ((l, .row v ⟨1, false⟩ true (xs.set i arr)) :: (l2, .gone v2) :: m)) := by simp [sStoreR]
theorem sStoreR_box (l ver i j v : Nat) (xs : List AV) (l2 v2 i2 n2 : Nat) (m : Mem) (n : Nat) (k : Mem → Prop) : sStoreR l ver i j (some (.box v xs)) l2 v2 i2 n2 m n k = sStoreB l ver i j (some (.box v xs)) (.ref l2 v2 i2 n2) m n k := rfl
def sStoreX (n : Nat) (p y : AV) (m : Mem) (k : Mem → Prop) : Prop := match p, y with
  | .ptr l ver i j, .ref l2 v2 i2 n2 => sStoreR l ver i j (lookB m l) l2 v2 i2 n2 m n k
  | p, y => sStore n p y m k
@[congr] theorem sStoreX_congr {n : Nat} {p p' y y' : AV} {m : Mem} {k : Mem → Prop} (h : p = p') (h' : y = y') : sStoreX n p y m k = sStoreX n p' y' m k := by rw [h, h']
theorem sStoreX_ref (n l ver i j l2 v2 i2 n2 : Nat) (m : Mem) (k : Mem → Prop) : sStoreX n (.ptr l ver i j) (.ref l2 v2 i2 n2) m k = sStoreR l ver i j (lookB m l) l2 v2 i2 n2 m n k := rfl
theorem sStoreX_val (n l ver i j : Nat) (v : Value) (m : Mem) (k : Mem → Prop) : sStoreX n (.ptr l ver i j) (.val v) m k = sStoreB l ver i j (lookB m l) (.val v) m n k := rfl
theorem sStoreX_agg (n l ver i j : Nat) (ys : List AV) (m : Mem) (k : Mem → Prop) : sStoreX n (.ptr l ver i j) (.agg ys) m k = sStoreB l ver i j (lookB m l) (.agg ys) m n k := rfl
theorem sStoreX_arr (n l ver i j : Nat) (sh : Sh) (ys : List AV) (m : Mem) (k : Mem → Prop) : sStoreX n (.ptr l ver i j) (.arr sh ys) m k = sStoreB l ver i j (lookB m l) (.arr sh ys) m n k := rfl
theorem sStoreX_e0 (n l ver i j : Nat) (m : Mem) (k : Mem → Prop) : sStoreX n (.ptr l ver i j) .e0 m k = sStoreB l ver i j (lookB m l) .e0 m n k := rfl
theorem sStoreX_ptr (n l ver i j l2 v2 i2 n2 : Nat) (m : Mem) (k : Mem → Prop) : sStoreX n (.ptr l ver i j) (.ptr l2 v2 i2 n2) m k = sStoreB l ver i j (lookB m l) (.ptr l2 v2 i2 n2) m n k := rfl
theorem sStoreX_clo (n l ver i j : Nat) (f : FuncId) (xs : List AV) (m : Mem) (k : Mem → Prop) : sStoreX n (.ptr l ver i j) (.clo f xs) m k = sStoreB l ver i j (lookB m l) (.clo f xs) m n k := rfl
theorem sStoreX_eptr (n l ver i j : Nat) (sh : Sh) (xs : List AV) (i2 j2 : Nat) (m : Mem) (k : Mem → Prop) : sStoreX n (.ptr l ver i j) (.eptr sh xs i2 j2) m k = sStoreB l ver i j (lookB m l) (.eptr sh xs i2 j2) m n k := rfl

end Go.Vc
