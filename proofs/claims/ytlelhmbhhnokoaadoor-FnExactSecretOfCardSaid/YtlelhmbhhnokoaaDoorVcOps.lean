/-
  Every operation, as the model runs it, does what the abstract state says.
-/
import Derived.Test.YtlelhmbhhnokoaaDoorVcCall
set_option linter.unusedVariables false
set_option linter.unusedSimpArgs false
set_option linter.unnecessarySimpa false
namespace Go.Vc

def sSl (kd : TK) (k : Prop) : Prop := match kd with | .slice => k | _ => False
theorem sSl_slice (k : Prop) : sSl .slice k = k := rfl
def sSt (kd : TK) (k : Prop) : Prop := match kd with | .struct => k | _ => False
theorem sSt_struct (k : Prop) : sSt .struct k = k := rfl

def sNil (m : Mem) (x : AV) (k : AV → Prop) : Prop := match x with
  | .ptr l v i j => sLive v (lookB m l) (k (.ptr l v i j))
  | .eptr sh xs i j => k (.eptr sh xs i j)
  | .clo f xs => k (.clo f xs)
  | _ => False
@[congr] theorem sNil_congr {m : Mem} {x x' : AV} {k : AV → Prop} (h : x = x') : sNil m x k = sNil m x' k := by rw [h]
theorem sNil_ptr (m : Mem) (l v i j : Nat) (k : AV → Prop) : sNil m (.ptr l v i j) k = sLive v (lookB m l) (k (.ptr l v i j)) := rfl
theorem sNil_eptr (m : Mem) (sh : Sh) (xs : List AV) (i j : Nat) (k : AV → Prop) : sNil m (.eptr sh xs i j) k = k (.eptr sh xs i j) := rfl
theorem sNil_clo (m : Mem) (f : FuncId) (xs : List AV) (k : AV → Prop) : sNil m (.clo f xs) k = k (.clo f xs) := rfl

/-- x[lo:hi] by the type of x -/
def sSlK (P : Program) (tt : TI) (x : AV) (lo hi : Option AV) (m : Mem) (k : AV → Prop) : Prop := match tt.kind with
  | .string => (match x with | .val (.string _) => True | _ => False) ∧ sSlice ⟨0, false⟩ x lo hi m k
  | .slice => (match x with | .arr _ _ => True | .ref _ _ _ _ => True | _ => False) ∧ sTI (tiOf P tt.elem) fun ti => sSlice ti.sh x lo hi m k
  | _ => False
@[congr] theorem sSlK_congr {P : Program} {tt : TI} {x x' : AV} {lo hi lo' hi' : Option AV} {m : Mem} {k : AV → Prop} (h : x = x') (h1 : lo = lo') (h2 : hi = hi') : sSlK P tt x lo hi m k = sSlK P tt x' lo' hi' m k := by rw [h, h1, h2]
theorem sSlK_str (P : Program) (ag : Bool) (s b : Nat) (z : AV) (f : List (Nat × Nat × Bool)) (e : Nat) (u : ByteArray) (lo hi : Option AV) (m : Mem) (k : AV → Prop) :
    sSlK P ⟨ag, s, b, z, f, e, .string⟩ (.val (.string u)) lo hi m k = sSlice ⟨0, false⟩ (.val (.string u)) lo hi m k := by simp [sSlK]
theorem sSlK_arr (P : Program) (ag : Bool) (s b : Nat) (z : AV) (f : List (Nat × Nat × Bool)) (e : Nat) (sh : Sh) (xs : List AV) (lo hi : Option AV) (m : Mem) (k : AV → Prop) :
    sSlK P ⟨ag, s, b, z, f, e, .slice⟩ (.arr sh xs) lo hi m k = sTI (tiOf P e) fun ti => sSlice ti.sh (.arr sh xs) lo hi m k := by simp [sSlK]
theorem sSlK_ref (P : Program) (ag : Bool) (s b : Nat) (z : AV) (f : List (Nat × Nat × Bool)) (e : Nat) (l v i n : Nat) (lo hi : Option AV) (m : Mem) (k : AV → Prop) :
    sSlK P ⟨ag, s, b, z, f, e, .slice⟩ (.ref l v i n) lo hi m k = sTI (tiOf P e) fun ti => sSlice ti.sh (.ref l v i n) lo hi m k := by simp [sSlK]

def sIdx (sh : Sh) (m : Mem) (x i : AV) (k : AV → Prop) : Prop := match x, i with
  | .arr sh' xs, .val (.int _ i) => sh' = sh ∧ (0 ≤ i ∧ i < xs.length) ∧ k (.eptr sh xs i.toNat 0)
  | .ref l v i0 n, .val (.int _ i) => sRSh sh v (lookB m l) ((0 ≤ i ∧ i < n) ∧ k (.ptr l v (i0 + i.toNat) 0))
  | _, _ => False
@[congr] theorem sIdx_congr {sh : Sh} {m : Mem} {x x' i i' : AV} {k : AV → Prop} (h : x = x') (h' : i = i') : sIdx sh m x i k = sIdx sh m x' i' k := by rw [h, h']
theorem sIdx_arr (sh : Sh) (m : Mem) (xs : List AV) (j : IntKind) (i : Int) (k : AV → Prop) : sIdx sh m (.arr sh xs) (.val (.int j i)) k = ((0 ≤ i ∧ i < xs.length) ∧ k (.eptr sh xs i.toNat 0)) := by simp [sIdx]
theorem sIdx_ref (sh : Sh) (m : Mem) (l v i0 n : Nat) (j : IntKind) (i : Int) (k : AV → Prop) : sIdx sh m (.ref l v i0 n) (.val (.int j i)) k = sRSh sh v (lookB m l) ((0 ≤ i ∧ i < n) ∧ k (.ptr l v (i0 + i.toNat) 0)) := rfl

def sAppT (P : Program) (tys : List TypeId) (d : Nat) (x y : AV) (m : Mem) (k : AV → Mem → Prop) : Prop := match tys with
  | [t, t'] => sTI (tiOf P t) fun tt => sSl tt.kind (sTI (tiOf P t') fun tt' => sSl tt'.kind (sTI (tiOf P tt.elem) fun ti => sApp ti d x y m k))
  | _ => False
theorem sAppT_eq (P : Program) (t t' : TypeId) (d : Nat) (x y : AV) (m : Mem) (k : AV → Mem → Prop) :
    sAppT P [t, t'] d x y m k = sTI (tiOf P t) fun tt => sSl tt.kind (sTI (tiOf P t') fun tt' => sSl tt'.kind (sTI (tiOf P tt.elem) fun ti => sApp ti d x y m k)) := rfl
theorem sApp_eq (ti : TI) (d : Nat) (x y : AV) (m : Mem) (k : AV → Mem → Prop) :
    sApp ti d x y m k = (ti.bytes ≤ 65536 ∧ 0 < ti.size ∧ fits ti.sh ti.zero ∧ sSrc ti.sh y m fun ys => isFlatL ys = true ∧ sApp1 ti d x ys m k) := rfl

def is0 : Option Operand → Bool
  | some (.const (.int _ n)) => n == 0
  | _ => false

def sPartA (ag : Bool) (n j : Nat) (x : AV) (k : AV → Prop) : Prop := match x with | .agg ys => sPart ag n j (.agg ys) k | _ => False
@[congr] theorem sPartA_congr {ag : Bool} {n j : Nat} {x x' : AV} {k : AV → Prop} (h : x = x') : sPartA ag n j x k = sPartA ag n j x' k := by rw [h]
theorem sPartA_agg (ag : Bool) (n j : Nat) (ys : List AV) (k : AV → Prop) : sPartA ag n j (.agg ys) k = sPart ag n j (.agg ys) k := rfl

/-- A slice held against nil: what is known of the answer. -/
def sNilB (a : AV) (m : Mem) (k : Bool → Prop) : Prop := match a with
  | .arr _ xs => ∀ c, (c = true → xs = []) → k c
  | .ref l v _ n => sLive v (lookB m l) (∀ c, (c = true → n = 0) → k c)
  | .e0 => ∀ c, k c
  | .val (.slice none 0 0) => k true
  | _ => False
@[congr] theorem sNilB_congr {a a' : AV} {m : Mem} {k : Bool → Prop} (h : a = a') : sNilB a m k = sNilB a' m k := by rw [h]
theorem sNilB_arr (sh : Sh) (xs : List AV) (m : Mem) (k : Bool → Prop) : sNilB (.arr sh xs) m k = ∀ c, (c = true → xs = []) → k c := rfl
theorem sNilB_ref (l v i n : Nat) (m : Mem) (k : Bool → Prop) : sNilB (.ref l v i n) m k = sLive v (lookB m l) (∀ c, (c = true → n = 0) → k c) := rfl
theorem sNilB_e0 (m : Mem) (k : Bool → Prop) : sNilB .e0 m k = ∀ c, k c := rfl
theorem sNilB_nil (m : Mem) (k : Bool → Prop) : sNilB (.val (.slice none 0 0)) m k = k true := rfl
def cst : Operand → Bool | .const _ => true | _ => false
theorem cst_const (v : Value) : cst (.const v) = true := rfl
theorem cst_tmp (t : Nat) : cst (.tmp t) = false := rfl
/-- An interface value held against nil. -/
def sIfc (op : BinOp) (a : AV) (c : Bool) (k : AV → Prop) : Prop := match op, a with
  | .eql, .val .nilIface => c = true ∧ k (.val (.bool true))
  | .neq, .val .nilIface => c = true ∧ k (.val (.bool false))
  | .eql, .val (.iface _ _) => k (.val (.bool false))
  | .neq, .val (.iface _ _) => k (.val (.bool true))
  | _, _ => False
@[congr] theorem sIfc_congr {op : BinOp} {a a' : AV} {c : Bool} {k : AV → Prop} (h : a = a') : sIfc op a c k = sIfc op a' c k := by rw [h]
theorem sIfc_en (c : Bool) (k : AV → Prop) : sIfc .eql (.val .nilIface) c k = (c = true ∧ k (.val (.bool true))) := rfl
theorem sIfc_nn (c : Bool) (k : AV → Prop) : sIfc .neq (.val .nilIface) c k = (c = true ∧ k (.val (.bool false))) := rfl
theorem sIfc_ei (t : TypeId) (v : Value) (c : Bool) (k : AV → Prop) : sIfc .eql (.val (.iface t v)) c k = k (.val (.bool false)) := rfl
theorem sIfc_ni (t : TypeId) (v : Value) (c : Bool) (k : AV → Prop) : sIfc .neq (.val (.iface t v)) c k = k (.val (.bool true)) := rfl
def sBinN (op : BinOp) (kd : TK) (a b : AV) (c : Bool) (m : Mem) (k : AV → Prop) : Prop := match kd, op, b with
  | .slice, .eql, .val (.slice none 0 0) => sNilB a m fun c => k (.val (.bool c))
  | .slice, .neq, .val (.slice none 0 0) => sNilB a m fun c => k (.val (.bool (!c)))
  | .iface, op, .val .nilIface => sIfc op a c k
  | kd, op, b => sBin op kd a b k
@[congr] theorem sBinN_congr {op : BinOp} {kd : TK} {a b a' b' : AV} {c : Bool} {m : Mem} {k : AV → Prop} (h : a = a') (h' : b = b') : sBinN op kd a b c m k = sBinN op kd a' b' c m k := by rw [h, h']
theorem sBinN_eql (a : AV) (c : Bool) (m : Mem) (k : AV → Prop) : sBinN .eql .slice a (.val (.slice none 0 0)) c m k = sNilB a m fun c => k (.val (.bool c)) := rfl
theorem sBinN_neq (a : AV) (c : Bool) (m : Mem) (k : AV → Prop) : sBinN .neq .slice a (.val (.slice none 0 0)) c m k = sNilB a m fun c => k (.val (.bool (!c))) := rfl
theorem sBinN_iface (op : BinOp) (a : AV) (c : Bool) (m : Mem) (k : AV → Prop) : sBinN op .iface a (.val .nilIface) c m k = sIfc op a c k := by cases op <;> rfl
theorem sBinN_int (op : BinOp) (i : IntKind) (a b : AV) (c : Bool) (m : Mem) (k : AV → Prop) : sBinN op (.int i) a b c m k = sBin op (.int i) a b k := rfl
theorem sBinN_bool (op : BinOp) (a b : AV) (c : Bool) (m : Mem) (k : AV → Prop) : sBinN op .bool a b c m k = sBin op .bool a b k := rfl
theorem sBinN_string (op : BinOp) (a b : AV) (c : Bool) (m : Mem) (k : AV → Prop) : sBinN op .string a b c m k = sBin op .string a b k := rfl
theorem sBinN_struct (op : BinOp) (a b : AV) (c : Bool) (m : Mem) (k : AV → Prop) : sBinN op .struct a b c m k = sBin op .struct a b k := rfl
theorem sBinN_of {op : BinOp} {kd : TK} {a b : AV} {c : Bool} {m : Mem} {k : AV → Prop} (h : sBin op kd a b k) : sBinN op kd a b c m k := by
  unfold sBinN
  split
  · unfold sBin at h; split at h <;> first | exact h.elim | (rename_i e; cases e)
  · unfold sBin at h; split at h <;> first | exact h.elim | (rename_i e; cases e)
  · unfold sBin at h; split at h <;> first | exact h.elim | (rename_i e; cases e)
  · exact h

/-- a call of a function value -/
def sCallV (P : Program) (c : AV) (d : Nat) (xs : List AV) (m : Mem) (k : AV → Mem → Prop) : Prop := match c with
  | .clo f ys => sCall P f d (xs ++ ys) m k
  | _ => False
@[congr] theorem sCallV_congr {P : Program} {c c' : AV} {d : Nat} {xs xs' : List AV} {m : Mem} {k : AV → Mem → Prop} (h : c = c') (h' : xs = xs') : sCallV P c d xs m k = sCallV P c' d xs' m k := by rw [h, h']
theorem sCallV_clo (P : Program) (f : FuncId) (ys : List AV) (d : Nat) (xs : List AV) (m : Mem) (k : AV → Mem → Prop) : sCallV P (.clo f ys) d xs m k = sCall P f d (xs ++ ys) m k := rfl
/- text out of bytes; a letter out of a number -/
def sBytesL (k : AV → Prop) : List UInt8 → List AV → Prop
  | acc, [] => k (.val (.string ⟨acc.reverse.toArray⟩))
  | acc, .val (.int .u8 z) :: r => (0 ≤ z ∧ z < 256) ∧ sBytesL k (UInt8.ofNat z.toNat :: acc) r
  | _, _ => False
theorem sBytesL_nil (k : AV → Prop) (acc : List UInt8) : sBytesL k acc [] = k (.val (.string ⟨acc.reverse.toArray⟩)) := rfl
theorem sBytesL_cons (k : AV → Prop) (acc : List UInt8) (z : Int) (r : List AV) : sBytesL k acc (.val (.int .u8 z) :: r) = ((0 ≤ z ∧ z < 256) ∧ sBytesL k (UInt8.ofNat z.toNat :: acc) r) := rfl
theorem u8_val (b : UInt8) : (0 ≤ ((b.toNat : Nat) : Int) ∧ ((b.toNat : Nat) : Int) < 256) ∧ UInt8.ofNat ((b.toNat : Nat) : Int).toNat = b := by
  have := b.toNat_lt
  refine ⟨⟨by omega, by omega⟩, ?_⟩
  simp
theorem sBytesL_map (k : AV → Prop) : ∀ (bs acc : List UInt8), sBytesL k acc (bs.map fun b => .val (.int .u8 b.toNat)) = k (.val (.string ⟨(acc.reverse ++ bs).toArray⟩))
  | [], acc => by simp [sBytesL]
  | b :: r, acc => by
    rw [List.map_cons, sBytesL_cons, (u8_val b).2, sBytesL_map k r (b :: acc)]
    simp [(u8_val b).1]
theorem sBytesL_out {k : AV → Prop} : ∀ {xs : List AV} {acc : List UInt8}, sBytesL k acc xs → ∃ bs : List UInt8, xs = bs.map (fun b => .val (.int .u8 b.toNat)) ∧ k (.val (.string ⟨(acc.reverse ++ bs).toArray⟩))
  | [], acc, h => ⟨[], rfl, by rw [sBytesL_nil] at h; simpa using h⟩
  | .val (.int .u8 z) :: r, acc, h => by
    obtain ⟨⟨h0, h1⟩, h⟩ := h
    obtain ⟨bs, rfl, hk⟩ := sBytesL_out h
    refine ⟨UInt8.ofNat z.toNat :: bs, ?_, by simpa using hk⟩
    have : ((UInt8.ofNat z.toNat).toNat : Int) = z := by
      rw [UInt8.toNat_ofNat_of_lt' (by show z.toNat < 256; omega)]; omega
    rw [List.map_cons, this]
def sBytes (y : AV) (k : AV → Prop) : Prop := match y with | .arr _ xs => sBytesL k [] xs | _ => False
@[congr] theorem sBytes_congr {y y' : AV} {k : AV → Prop} (h : y = y') : sBytes y k = sBytes y' k := by rw [h]
theorem sBytes_arr (sh : Sh) (xs : List AV) (k : AV → Prop) : sBytes (.arr sh xs) k = sBytesL k [] xs := rfl
def isU8 (kd : TK) (k : Prop) : Prop := match kd with | .int .u8 => k | _ => False
theorem isU8_eq (k : Prop) : isU8 (.int .u8) k = k := rfl
def sChr (x : AV) (k : AV → Prop) : Prop := match x with | .val (.int _ n) => (0 ≤ n ∧ n < 128) ∧ k (.val (.string ⟨#[UInt8.ofNat n.toNat]⟩)) | _ => False
@[congr] theorem sChr_congr {y y' : AV} {k : AV → Prop} (h : y = y') : sChr y k = sChr y' k := by rw [h]
theorem sChr_int (i : IntKind) (n : Int) (k : AV → Prop) : sChr (.val (.int i n)) k = ((0 ≤ n ∧ n < 128) ∧ k (.val (.string ⟨#[UInt8.ofNat n.toNat]⟩))) := rfl
def sConvX (P : Program) (si ti : TI) (x : AV) (m : Mem) (k : AV → Prop) : Prop := match si.kind, ti.kind with
  | .slice, .string => sTI (tiOf P si.elem) fun ei => isU8 ei.kind (sLeafT m x fun y => sBytes y k)
  | .int _, .string => sChr x k
  | _, d => sConv d x k
@[congr] theorem sConvX_congr {P : Program} {si ti : TI} {x x' : AV} {m : Mem} {k : AV → Prop} (h : x = x') : sConvX P si ti x m k = sConvX P si ti x' m k := by rw [h]
section
variable (P : Program) (ag ag' : Bool) (s b s' b' : Nat) (z z' : AV) (f f' : List (Nat × Nat × Bool)) (e e' : Nat) (x : AV) (m : Mem) (k : AV → Prop)
theorem sConvX_bytes : sConvX P ⟨ag, s, b, z, f, e, .slice⟩ ⟨ag', s', b', z', f', e', .string⟩ x m k = sTI (tiOf P e) fun ei => isU8 ei.kind (sLeafT m x fun y => sBytes y k) := rfl
theorem sConvX_chr (i : IntKind) : sConvX P ⟨ag, s, b, z, f, e, .int i⟩ ⟨ag', s', b', z', f', e', .string⟩ x m k = sChr x k := rfl
theorem sConvX_int (kd : TK) (i : IntKind) : sConvX P ⟨ag, s, b, z, f, e, kd⟩ ⟨ag', s', b', z', f', e', .int i⟩ x m k = sConv (.int i) x k := by cases kd <;> rfl
theorem sConvX_str : sConvX P ⟨ag, s, b, z, f, e, .string⟩ ⟨ag', s', b', z', f', e', .string⟩ x m k = sConv .string x k := rfl
end
/-- What an operation does. 'd': the temporary that it writes. -/
def sOp (P : Program) (d : Nat) (op : Op) (ts : Env) (m : Mem) (k : AV → Mem → Prop) : Prop :=
  match op with
  | .move x => k (ev ts x) m
  | .assign x => k (ev ts x) m
  | .pick c a b => sPick (ev ts c) (ev ts a) (ev ts b) fun v => k v m
  | .alloc t => sTI (tiOf P t) fun ti => sBox d ti.zero m k
  | .box _ x => sBox d (ev ts x) m k
  | .build t parts => sTI (tiOf P t) fun ti => sSt ti.kind (sBuild ti (parts.toList.map fun p => (p.1, ev ts p.2)) fun v => k v m)
  | .buildSlice t n parts => sTI (tiOf P t) fun tt => sSl tt.kind (sTI (tiOf P tt.elem) fun ti => sBuildSlice ti d n (parts.toList.map fun p => (p.1, ev ts p.2)) m k)
  | .load t x => sTI (tiOf P t) fun ti => sLoadX ti.agg ti.size (ev ts x) m k
  | .store t p y => sTI (tiOf P t) fun ti => sStoreX ti.size (ev ts p) (ev ts y) m fun m' => k .undef m'
  | .nilCheck x => sNil m (ev ts x) fun v => k v m
  | .binOp op t x y _ => sTI (tiOf P t) fun ti => sBinS P t op (ev ts x) (ev ts y) (fun v => k v m) (sBinN op ti.kind (ev ts x) (ev ts y) (cst y) m fun v => k v m)
  | .unOp .not _ x => sNot (ev ts x) fun v => k v m
  | .unOp .neg _ x => sNeg (ev ts x) fun v => k v m
  | .convert s t x => sTI (tiOf P s) fun si => sTI (tiOf P t) fun ti => sConvX P si ti (ev ts x) m fun v => k v m
  | .makeSlice t l c => sTI (tiOf P t) fun tt => sSl tt.kind (sTI (tiOf P tt.elem) fun ti => sMake ti d (ev ts l) (ev ts c) m k)
  | .slice t x lo hi none => sTI (tiOf P t) fun tt => sSlK P tt (ev ts x) (lo.map (ev ts)) (hi.map (ev ts)) m fun v => k v m
  | .slice t x none hi mx => (is0 hi = true ∧ is0 mx = true) ∧ sTI (tiOf P t) fun tt => sSl tt.kind (sTI (tiOf P tt.elem) fun _ => sSlice0 m (ev ts x) fun v => k v m)
  | .fieldAddr t x f => sTI (tiOf P t) fun ti => sFld ti.fields[f]? fun fd => 0 < fd.2.1 ∧ sField fd.1 m (ev ts x) fun v => k v m
  | .field t x f => sTI (tiOf P t) fun ti => sFld ti.fields[f]? fun fd => sPartA fd.2.2 fd.2.1 fd.1 (ev ts x) fun v => k v m
  | .indexAddr t x i => sTI (tiOf P t) fun tt => sSl tt.kind (sTI (tiOf P tt.elem) fun ti => sIdx ti.sh m (ev ts x) (ev ts i) fun v => k v m)
  | .index t x i => sTI (tiOf P t) fun tt => (match tt.kind with | .string => True | _ => False) ∧ sIndex (ev ts x) (ev ts i) fun v => k v m
  | .extract x i => sTup i (ev ts x) fun v => k v m
  | .call c => match c.callee, c.args.toList with
    | .builtin .len, [x] => match c.argTypes.toList with | t :: _ => sTI (tiOf P t) fun ti => sLen ti.kind m (ev ts x) fun v => k v m | [] => False
    | .builtin .max, [x, y] => sMax (ev ts x) (ev ts y) fun v => k v m
    | .builtin .min, [x, y] => sMin (ev ts x) (ev ts y) fun v => k v m
    | .builtin .append, [x, y] => sAppT P c.argTypes.toList d (ev ts x) (ev ts y) m k
    | .value (.func f), xs => sCall P f d (xs.map (ev ts)) m k
    | .value (.tmp t), xs => sCallV P (look ts t) d (xs.map (ev ts)) m k
    | _, _ => False
  | .makeFunc (.func f) first caps => first.toList = [] ∧ k (.clo f (caps.toList.map (ev ts))) m
  | _ => False


section
variable {P : Program} {B : Base} {N : Nat} {φ : Nat → LS} {fp : Nat → List Nat} {S : Nat → Prop} {ts : Env} {m : Mem} {a : Act} {w : World}

theorem sTI_out {x : Option TI} {k : TI → Prop} (h : sTI x k) : ∃ t, x = some t ∧ k t := by
  cases x with
  | none => exact h.elim
  | some t => exact ⟨t, rfl, h⟩
theorem sSl_out {kd : TK} {k : Prop} (h : sSl kd k) : kd = .slice ∧ k := by cases kd <;> first | exact h.elim | exact ⟨rfl, h⟩
theorem sSt_out {kd : TK} {k : Prop} (h : sSt kd k) : kd = .struct ∧ k := by cases kd <;> first | exact h.elim | exact ⟨rfl, h⟩
theorem sFld_out {f : Option (Nat × Nat × Bool)} {k : Nat × Nat × Bool → Prop} (h : sFld f k) : ∃ fd, f = some fd ∧ k fd := by
  cases f with
  | none => exact h.elim
  | some t => exact ⟨t, rfl, h⟩

theorem field_of {t : TypeId} {ti : TI} (ht : tiOf P t = some ti) {f : Nat} {fd : Nat × Nat × Bool} (hf : ti.fields[f]? = some fd) :
    ∃ fs g, P.underlying t = some (.struct fs) ∧ fs[f]? = some g ∧ fd = (g.offset, sizeOf' P g.type, aggOf P g.type) ∧ ∃ i d, P.info? g.type = some i ∧ P.underlying g.type = some d := by
  obtain ⟨i, d, z, hi, hd, hz, _, _, _, _, hff, _⟩ := kind_of ht
  rw [hff] at hf
  cases d with
  | struct fs =>
    simp only [List.getElem?_map] at hf
    cases hg : fs.toList[f]? with
    | none => rw [hg] at hf; cases hf
    | some g =>
      rw [hg] at hf
      simp only [Option.map_some, Option.some.injEq] at hf
      obtain ⟨i', hi'⟩ := Option.isSome_iff_exists.1 (fields_of ht fs hd g (List.mem_of_getElem? hg)).1
      obtain ⟨d', hd'⟩ := Option.isSome_iff_exists.1 (fields_of ht fs hd g (List.mem_of_getElem? hg)).2
      exact ⟨fs, g, hd, by simpa using hg, hf.symm, i', d', hi', hd'⟩
  | _ => simp at hf

theorem live_out (h : RS B N φ fp S ts m a w) {l v : Nat} (hn : φ l ≠ .nil v) {k : Prop} (hk : sLive v (lookB m l) k) : (∃ b sh, φ l = .at b sh v) ∧ k := by
  unfold sLive at hk
  split at hk
  · rename_i v' xs hlk
    obtain ⟨rfl, hk⟩ := hk
    obtain ⟨b, cs, e, sh, hφ, _⟩ := h.mSome l _ hlk
    exact ⟨⟨b, sh, hφ⟩, hk⟩
  · rename_i v' sh d xs hlk
    obtain ⟨rfl, hk⟩ := hk
    rcases h.mSome l _ hlk with ⟨h1, _⟩ | ⟨b, cap, hφ, _⟩
    · exact absurd h1 hn
    · exact ⟨⟨b, sh, hφ⟩, hk⟩
  · exact hk.elim

theorem run_field {t : TypeId} {ti : TI} (ht : tiOf P t = some ti) (h : RS B N φ fp S ts m a w) {p : AV} {v : Value} (hp : RV w S φ p v) (hpl : ∀ l ver, (l, ver) ∈ labs p → known m l ver) {f : Nat} {fd : Nat × Nat × Bool} (hf : ti.fields[f]? = some fd) (hsz : 0 < fd.2.1)
    {k : AV → Prop} (hk : sField fd.1 m p k) : Runs B N a (fun x ts' m' => ts' = ts ∧ m' = m ∧ k x) ((Instr.fieldAt t v f).run P w) := by
  obtain ⟨fs, g, hu, hg, rfl, i, d, hi, hd⟩ := field_of ht hf
  simp only at hsz
  have hs : sizeOf' P g.type = i.size := by simp [sizeOf', hi]
  have hrun : ∀ b o, (Instr.fieldAt t (.pointer (some ⟨b, o, none⟩)) f).run P w = .ok (.pointer (some ⟨b, o + g.offset, none⟩)) w := by
    intro b o
    have h0 : i.size ≠ 0 := by omega
    simp [Instr.fieldAt, run_underlying hu, hg, Instr.sureAddr, fieldPlace, sizeOf, typeInfo, hi, h0, Addr.add_none]
  unfold sField at hk
  split at hk
  · rename_i l ver i' j'
    obtain ⟨⟨b, sh, hφ⟩, hk⟩ := live_out h (rv_ptr2 hp).1 hk
    have hv := rv_ptr hp b sh hφ
    subst hv
    refine ⟨_, w, hrun _ _, h.gives (x := .ptr l ver i' (j' + g.offset)) ?_ (fun l' ver' hl => hpl l' ver' (by simpa [labs] using hl)) ⟨rfl, rfl, hk⟩⟩
    refine .ptr _ _ _ _ _ (fun b' sh' hb' => ?_) (rv_ptr2 hp).1 rfl
    rw [hφ] at hb'; cases hb'
    rw [Nat.add_assoc]
  · rename_i sh xs i' j'
    cases rv_eptr hp with
    | eptr _ _ _ _ b off cs e fr hS hb hl hff hv =>
      refine ⟨_, w, hrun _ _, h.gives ?_ (fun l' ver' hl => by cases hl) ⟨rfl, rfl, hk⟩⟩
      have := Rd.eptr (w := w) (S := S) sh xs i' (j' + g.offset) b off cs e fr hS hb hl hff hv
      rw [← Nat.add_assoc] at this
      exact .rd _ _ this
  · exact hk.elim


theorem run_idx {t : TypeId} {tt ti : TI} (htt : tiOf P t = some tt) (hks : tt.kind = .slice) (ht : tiOf P tt.elem = some ti) (h : RS B N φ fp S ts m a w) {x i : AV} {u v : Value} (hx : RV w S φ x u) (hxl : ∀ l ver, (l, ver) ∈ labs x → known m l ver) (hi : RV w S φ i v)
    {k : AV → Prop} (hk : sIdx ti.sh m x i k) : Runs B N a (fun x ts' m' => ts' = ts ∧ m' = m ∧ k x) ((Instr.indexAt t u v).run P w) := by
  have hsl := kind_slice htt hks
  have hs := sizeOf_run ht w
  have hrun : ∀ (b o len cap : Nat) (q : IntKind) (n : Int), 0 ≤ n → n < len → (Instr.indexAt t (.slice (some ⟨b, o, none⟩) len cap) (.int q n)).run P w = .ok (.pointer (some ⟨b, o + n.toNat * ti.size, none⟩)) w := by
    intro b o len cap q n h0 h1
    simp [Instr.indexAt, asIntOf, run_underlying hsl, h0, h1, hs, Addr.add_none]
  unfold sIdx at hk
  split at hk
  · rename_i sh' xs q n
    obtain ⟨rfl, ⟨h0, h1⟩, hk⟩ := hk
    obtain ⟨rfl, _⟩ := rv_val hi
    cases rv_arr hx with
    | nil => simp at h1; omega
    | arr _ _ b off cap cs e fr hS hb hcap hl hf hv =>
      refine ⟨_, w, hrun b off _ cap q n h0 h1, h.gives ?_ (fun l' ver' hl => by cases hl) ⟨rfl, rfl, hk⟩⟩
      have := Rd.eptr (w := w) (S := S) ti.sh xs n.toNat 0 b off cs e fr hS hb hl hf hv
      exact .rd _ _ this
  · rename_i l ver i0 n0 q n
    unfold sRSh at hk
    split at hk
    · rename_i v' sh' deep xs hlk
      obtain ⟨rfl, rfl, ⟨h0, h1⟩, hk⟩ := hk
      obtain ⟨rfl, _⟩ := rv_val hi
      have hr := rv_ref hx
      have hkn := hxl l v' (by simp [labs])
      rcases h.mSome l _ hlk with ⟨g1, g2, g3⟩ | ⟨b, cap0, hφ, hbm, hdp, hown⟩
      · have := (hr.2 g1).1; omega
      · obtain ⟨ad, cap, rfl, hnc, hcp⟩ := hr.1 b _ hφ
        obtain ⟨rfl, cs, e, q1, q2⟩ := hcp.resolve_left (by omega)
        refine ⟨_, w, hrun b _ _ cap q n h0 h1, h.gives (x := .ptr l v' (i0 + n.toNat) 0) ?_ (fun l' ver' hl => ?_) ⟨rfl, rfl, hk⟩⟩
        · refine .ptr _ _ _ _ _ (fun b' sh' hb' => ?_) (fun hb' => by rw [hφ] at hb'; cases hb') rfl
          rw [hφ] at hb'; cases hb'
          rw [Nat.add_zero, Nat.add_mul]; rfl
        · simp only [labs, List.mem_singleton, Prod.mk.injEq] at hl
          obtain ⟨rfl, rfl⟩ := hl
          exact hkn
    · exact hk.elim
  · exact hk.elim

theorem run_index {t : TypeId} (ht : P.underlying t = some .string) (h : RS B N φ fp S ts m a w) {x i : AV} {u v : Value} (hx : RV w S φ x u) (hi : RV w S φ i v)
    {k : AV → Prop} (hk : sIndex x i k) : Runs B N a (fun x ts' m' => ts' = ts ∧ m' = m ∧ k x) ((Instr.index t u v).run P w) := by
  unfold sIndex at hk
  split at hk
  · rename_i s q n
    obtain ⟨⟨h0, h1⟩, hk⟩ := hk
    obtain ⟨rfl, _⟩ := rv_val hx
    obtain ⟨rfl, _⟩ := rv_val hi
    have hlt : n.toNat < s.size := by omega
    have hlt' : n.toNat < s.data.toList.length := by simpa using hlt
    have e : s[n.toNat]? = some (s.data.toList.getD n.toNat 0) := by
      rw [List.getD_eq_getElem?_getD, List.getElem?_eq_getElem hlt', getElem?_pos s n.toNat hlt]
      rfl
    refine ⟨.int .u8 (s.data.toList.getD n.toNat 0).toNat, w, ?_, h.givesV rfl ⟨rfl, rfl, hk⟩⟩
    simp only [Instr.index, asIntOf, pure_bind, Sem.run_bind, run_underlying ht, Result.andThen_ok, h0, if_true, e]
    rfl
  · exact hk.elim

theorem run_len {t ty : TypeId} {ti : TI} (ht : tiOf P t = some ti) (h : RS B N φ fp S ts m a w) {x : AV} {u : Value} (hx : RV w S φ x u)
    {k : AV → Prop} (hk : sLen ti.kind m x k) : Runs B N a (fun x ts' m' => ts' = ts ∧ m' = m ∧ k x) ((Builtin.len_ #[t] ty #[u]).run P w) := by
  unfold sLen at hk
  have sl : ∀ (ad : Option Addr) (n c : Nat), ti.kind = .slice → (Builtin.len_ #[t] ty #[.slice ad n c]).run P w = .ok (.int .i64 n) w := by
    intro ad n c hkd
    simp [Builtin.len_, run_underlying (kind_slice ht hkd), goInt]
  split at hk
  · rename_i sh xs hkd
    cases rv_arr hx with
    | nil _ ad => exact ⟨_, w, sl ad 0 0 hkd, h.givesV rfl ⟨rfl, rfl, hk⟩⟩
    | arr _ _ b off cap cs e fr hS hb hcap hl hf hv => exact ⟨_, w, sl _ _ _ hkd, h.givesV rfl ⟨rfl, rfl, hk⟩⟩
  · rename_i l v i n hkd
    have hr := rv_ref hx
    unfold sLive at hk
    split at hk
    · rename_i v' xs hlk
      obtain ⟨rfl, hk⟩ := hk
      obtain ⟨b, cs, e, sh, hφ, _⟩ := h.mSome l _ hlk
      obtain ⟨ad, c, rfl, _⟩ := hr.1 b sh hφ
      exact ⟨_, w, sl _ _ _ hkd, h.givesV rfl ⟨rfl, rfl, hk⟩⟩
    · rename_i v' sh d xs hlk
      obtain ⟨rfl, hk⟩ := hk
      rcases h.mSome l _ hlk with ⟨h1, _⟩ | ⟨b, cap, hφ, _⟩
      · obtain ⟨rfl, ad, rfl⟩ := hr.2 h1
        exact ⟨_, w, sl _ _ _ hkd, h.givesV rfl ⟨rfl, rfl, hk⟩⟩
      · obtain ⟨ad, c, rfl, _⟩ := hr.1 b sh hφ
        exact ⟨_, w, sl _ _ _ hkd, h.givesV rfl ⟨rfl, rfl, hk⟩⟩
    · exact hk.elim
  · rename_i hkd
    obtain ⟨ad, rfl⟩ := rv_e0 hx
    exact ⟨_, w, sl ad 0 0 hkd, h.givesV rfl ⟨rfl, rfl, hk⟩⟩
  · rename_i ad n c hkd
    obtain ⟨rfl, _⟩ := rv_val hx
    exact ⟨_, w, sl ad n c hkd, h.givesV rfl ⟨rfl, rfl, hk⟩⟩
  · rename_i s hkd
    obtain ⟨rfl, _⟩ := rv_val hx
    refine ⟨.int .i64 s.size, w, ?_, h.givesV rfl ⟨rfl, rfl, hk⟩⟩
    simp [Builtin.len_, run_underlying (kind_string ht hkd), goInt]
  · exact hk.elim

theorem run_fieldV (h : RS B N φ fp S ts m a w) {x : AV} {u : Value} (hx : RV w S φ x u) (hxl : ∀ l ver, (l, ver) ∈ labs x → known m l ver) {t : TypeId} {ti : TI} (ht : tiOf P t = some ti) {f : Nat} {fd : Nat × Nat × Bool} (hf : ti.fields[f]? = some fd)
    {k : AV → Prop} (hk : sPart fd.2.2 fd.2.1 fd.1 x k) (hagg : ∃ xs, x = .agg xs) : Runs B N a (fun x ts' m' => ts' = ts ∧ m' = m ∧ k x) ((Instr.field t u f).run P w) := by
  obtain ⟨xs, rfl⟩ := hagg
  obtain ⟨fs, g, hu, hg, rfl, i, d, hi, hd⟩ := field_of ht hf
  obtain ⟨cs, rfl, h1, h2, h3⟩ := rv_agg hx
  have hs : sizeOf' P g.type = i.size := by simp [sizeOf', hi]
  have hag : (isAgg g.type).run P w = .ok (aggOf P g.type) w := by
    unfold isAgg aggOf
    simp only [Sem.run_bind, run_underlying hd, Result.andThen_ok, hd]
    cases d <;> rfl
  simp only at hk
  rw [hs] at hk
  cases hb : aggOf P g.type with
  | true =>
    rw [hb] at hk hag
    obtain ⟨hlen, hk⟩ := hk
    refine ⟨.agg (cs.extract g.offset (g.offset + i.size)), w, ?_, h.gives (x := .agg ((xs.drop g.offset).take i.size)) (.agg _ _ (by simp; omega) (fun q hq => ?_) fun q hq => ?_) (fun l ver hl => ?_) ⟨rfl, rfl, hk⟩⟩
    · simp [Instr.field, run_underlying hu, hg, asAgg, part, hag, sizeOf, typeInfo, hi]
    · simp only [List.length_take, List.length_drop] at hq
      simp only [List.getElem_take, List.getElem_drop]
      exact h2 _ (by omega)
    · simp only [List.length_take, List.length_drop] at hq
      simp only [List.getElem_take, List.getElem_drop]
      have := h3 (g.offset + q) (by omega)
      have e : (cs.extract g.offset (g.offset + i.size)).toList.getD q Go.undef = cs.toList.getD (g.offset + q) Go.undef := by
        simp only [List.getD_eq_getElem?_getD, Array.getElem?_toList, Array.getElem?_extract]
        rw [if_pos (by omega)]
      rw [e]; exact this
    · simp only [labs] at hl
      obtain ⟨q, hq, hl2⟩ := of_mem_labsL hl
      simp only [List.length_take, List.length_drop] at hq
      simp only [List.getElem_take, List.getElem_drop] at hl2
      exact hxl l ver (by simp only [labs]; exact mem_labsL (by omega) hl2)
  | false =>
    rw [hb] at hk hag
    simp only [sPart] at hk
    cases hj : xs[g.offset]? with
    | none => rw [hj] at hk; exact hk.elim
    | some y =>
      rw [hj] at hk
      obtain ⟨hj1, hj2⟩ := List.getElem?_eq_some_iff.1 hj
      have hlt : g.offset < cs.size := by omega
      refine ⟨cs.toList.getD g.offset Go.undef, w, ?_, h.gives (x := y) ?_ (fun l ver hl => ?_) ⟨rfl, rfl, hk⟩⟩
      · have e : cs[g.offset]? = some (cs.toList.getD g.offset Go.undef) := by
          rw [List.getD_eq_getElem?_getD, Array.getElem?_toList, Array.getElem?_eq_getElem hlt]; rfl
        simp only [Instr.field, run_underlying hu, Sem.run_bind, Result.andThen_ok, hg, asAgg, pure_bind, part, hag, e, Bool.false_eq_true, if_false]
        rfl
      · have := h3 g.offset hj1
        rwa [hj2] at this
      · exact hxl l ver (by simp only [labs]; exact mem_labsL hj1 (by rw [hj2]; exact hl))

end
end Go.Vc
