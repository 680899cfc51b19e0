/-
  The operations that leave the world as it is do what the abstract state says.
-/
import Derived.Test.YtlelhmbhhnokoaaDoorVcDefs
set_option linter.unusedVariables false
set_option linter.unusedSimpArgs false
set_option linter.unnecessarySimpa false
namespace Go.Vc

section inv
variable {w : World} {S : Nat → Prop} {φ : Nat → LS}
theorem rv_val {u v : Value} (h : RV w S φ (.val u) v) : u = v ∧ v.oneCell' = true := by
  cases h with
  | rd _ _ h => cases h with | val _ h => exact ⟨rfl, h⟩
theorem rv_e0 {v : Value} (h : RV w S φ .e0 v) : ∃ a, v = .slice a 0 0 := by
  cases h with
  | rd _ _ h => cases h with | e0 a => exact ⟨a, rfl⟩
theorem rv_arr {sh : Sh} {xs : List AV} {v : Value} (h : RV w S φ (.arr sh xs) v) : Rd w S (.arr sh xs) v := by
  cases h with
  | rd _ _ h => exact h
theorem rv_eptr {sh : Sh} {xs : List AV} {i j : Nat} {v : Value} (h : RV w S φ (.eptr sh xs i j) v) : Rd w S (.eptr sh xs i j) v := by
  cases h with
  | rd _ _ h => exact h
theorem rv_tup {xs : List AV} {v : Value} (h : RV w S φ (.tup xs) v) : ∃ cs : Array Value, v = .tuple cs ∧ cs.size = xs.length ∧ ∀ i (h : i < xs.length), RV w S φ xs[i] (cs.toList.getD i Go.undef) := by
  cases h with
  | rd _ _ h => cases h with | tup _ cs hl hv => exact ⟨cs, rfl, hl, fun i h => .rd _ _ (hv i h)⟩
  | tup _ cs hl hv => exact ⟨cs, rfl, hl, hv⟩
theorem rv_agg {xs : List AV} {v : Value} (h : RV w S φ (.agg xs) v) : ∃ cs : Array Value, v = .agg cs ∧ cs.size = xs.length ∧ (∀ i (h : i < xs.length), leaf xs[i]) ∧ ∀ i (h : i < xs.length), RV w S φ xs[i] (cs.toList.getD i Go.undef) := by
  cases h with
  | rd _ _ h => cases h with | agg _ cs hl hf hv => exact ⟨cs, rfl, hl, hf, fun i h => .rd _ _ (hv i h)⟩
  | agg _ cs hl hf hv => exact ⟨cs, rfl, hl, hf, hv⟩
theorem rv_clo {f : FuncId} {xs : List AV} {v : Value} (h : RV w S φ (.clo f xs) v) : ∃ cs : Array Value, v = .func (.func f) #[] cs ∧ cs.size = xs.length ∧ ∀ i (h : i < xs.length), RV w S φ xs[i] (cs.toList.getD i Go.undef) := by
  cases h with
  | rd _ _ h => cases h with | clo _ _ cs hl hv => exact ⟨cs, rfl, hl, fun i h => .rd _ _ (hv i h)⟩
  | clo _ _ cs hl hv => exact ⟨cs, rfl, hl, hv⟩
theorem rv_ref {l ver i n : Nat} {v : Value} (h : RV w S φ (.ref l ver i n) v) : (∀ b sh, φ l = .at b sh ver → ∃ a cap, v = .slice a n cap ∧ n ≤ cap ∧ (cap = 0 ∨ (a = some ⟨b, i * sh.sz, none⟩ ∧ ∃ cs e, w.heap[b]? = some (.cells cs e (0, 0)) ∧ cs.size = (i + cap) * sh.sz))) ∧ (φ l = .nil ver → n = 0 ∧ ∃ a, v = .slice a 0 0) := by
  cases h with
  | rd _ _ h => cases h
  | ref _ _ _ _ _ h1 h2 _ => exact ⟨h1, h2⟩
theorem rv_ptr {l ver i j : Nat} {v : Value} (h : RV w S φ (.ptr l ver i j) v) : ∀ b sh, φ l = .at b sh ver → v = .pointer (some ⟨b, i * sh.sz + j, none⟩) := by
  cases h with
  | rd _ _ h => cases h
  | ptr _ _ _ _ _ h1 _ _ => exact h1
theorem rv_ptr2 {l ver i j : Nat} {v : Value} (h : RV w S φ (.ptr l ver i j) v) : φ l ≠ .nil ver ∧ v.oneCell' = true := by
  cases h with
  | rd _ _ h => cases h
  | ptr _ _ _ _ _ _ h2 h3 => exact ⟨h2, h3⟩
theorem rv_scalar {v : Value} (h : v.oneCell' = true) : RV w S φ (.val v) v := .rd _ _ (.val v h)
theorem rd_cAV (v : Value) : Rd w S (cAV v) v := by
  cases v with
  | agg cs =>
    simp only [cAV]
    split
    · rename_i h
      refine .agg _ cs (by simp) (fun i hi => by simp [leaf]) fun i hi => ?_
      have hi' : i < cs.toList.length := by simpa using hi
      have he : cs.toList.getD i Go.undef = cs.toList[i] := by rw [List.getD_eq_getElem?_getD, List.getElem?_eq_getElem hi']; rfl
      rw [he]
      simp only [List.getElem_map]
      exact .val _ (List.all_eq_true.1 h _ (List.getElem_mem hi'))
    · exact .undef _
  | tuple vs => exact .undef _
  | _ => exact .val _ rfl
theorem labs_cAV (v : Value) : labs (cAV v) = [] := by
  cases v with
  | agg cs =>
    simp only [cAV]
    split
    · simp only [labs]
      generalize cs.toList = l
      induction l with
      | nil => rfl
      | cons x r ih => simpa [labsL, labs] using ih
    · rfl
  | _ => rfl
end inv

section
variable {B : Base} {N : Nat} {φ : Nat → LS} {fp : Nat → List Nat} {S : Nat → Prop} {ts : Env} {m : Mem} {a : Act} {w : World}

theorem RS.ev (h : RS B N φ fp S ts m a w) (x : Operand) : RV w S φ (ev ts x) (a.eval x) := by
  cases x with
  | tmp t => exact h.tm t
  | const v => exact .rd _ _ (rd_cAV v)
  | global g => exact .rd _ _ (.undef _)
  | func f => exact .clo f [] #[] rfl fun i h => absurd h (Nat.not_lt_zero _)

theorem RS.evL (h : RS B N φ fp S ts m a w) (x : Operand) : ∀ l ver, (l, ver) ∈ labs (Vc.ev ts x) → known m l ver := by
  cases x with
  | tmp t => exact h.tl t
  | const v => intro l ver hl; rw [show Vc.ev ts (.const v) = cAV v from rfl, labs_cAV] at hl; cases hl
  | global g => intro l ver hl; cases hl
  | func f => intro l ver hl; simp [Vc.ev, labs, labsL] at hl

/-- The frame and the world are described by some state that meets K. -/
def Done (B : Base) (N : Nat) (K : Env → Mem → Prop) (a : Act) (w : World) : Prop :=
  ∃ φ fp S ts m, RS B N φ fp S ts m a w ∧ K ts m

/-- The value of an operation is put, and the world is as described. -/
def Gives (B : Base) (N : Nat) (a : Act) (k : AV → Env → Mem → Prop) (v : Value) (w : World) : Prop :=
  ∃ φ fp S ts m x, RS B N φ fp S ts m a w ∧ RV w S φ x v ∧ (∀ l ver, (l, ver) ∈ labs x → known m l ver) ∧ k x ts m

theorem Gives.done {k : AV → Env → Mem → Prop} {v : Value} {d : Nat} (hd : d < N) (h : Gives B N a k v w) {K : Env → Mem → Prop} (hK : ∀ x ts m, k x ts m → K ((d, x) :: ts) m) :
    Done B N K (a.put (some d) v) w := by
  obtain ⟨φ, fp, S, ts, m, x, h1, h2, h3, h4⟩ := h
  exact ⟨φ, fp, S, _, m, h1.put d x v hd h2 h3, hK _ _ _ h4⟩
theorem Gives.skip {k : AV → Env → Mem → Prop} {v : Value} (h : Gives B N a k v w) {K : Env → Mem → Prop} (hK : ∀ x ts m, k x ts m → K ts m) :
    Done B N K (a.put none v) w := by
  obtain ⟨φ, fp, S, ts, m, x, h1, h2, h3, h4⟩ := h
  exact ⟨φ, fp, S, _, m, h1, hK _ _ _ h4⟩

/-- A run that ends in a value. -/
def Runs (B : Base) (N : Nat) (a : Act) (k : AV → Env → Mem → Prop) (r : Result Value) : Prop :=
  ∃ v w', r = .ok v w' ∧ Gives B N a k v w'

theorem RS.gives (h : RS B N φ fp S ts m a w) {k : AV → Env → Mem → Prop} {x : AV} {v : Value} (hx : RV w S φ x v) (hl : ∀ l ver, (l, ver) ∈ labs x → known m l ver) (hk : k x ts m) : Gives B N a k v w :=
  ⟨φ, fp, S, ts, m, x, h, hx, hl, hk⟩
theorem RS.givesV (h : RS B N φ fp S ts m a w) {k : AV → Env → Mem → Prop} {v : Value} (hv : v.oneCell' = true) (hk : k (.val v) ts m) : Gives B N a k v w :=
  h.gives (rv_scalar hv) (fun _ _ hl => by cases hl) hk

/-- What follows a value that needs no memory. -/
def Scal (k : AV → Prop) (v : Value) : Prop := v.oneCell' = true ∧ k (.val v)

theorem sWrap_out {i : IntKind} {n : Int} {c : AV → Prop} (h : sWrap i n c) : c (.val (.int i (i.wrap n))) := by
  cases i <;> first | exact h | (obtain ⟨h1, h2⟩ := h; rw [IntWalk.i64_in n h1]; exact h2)

variable {P : Program}
theorem run_eqGuard_int (op : BinOp) (t : TypeId) (x y : Operand) (i j : IntKind) (p q : Int) (w : World) : (eqGuard op t x y (.int i p) (.int j q)).run P w = .ok () w := by
  cases op <;> simp [eqGuard]
theorem run_eqGuard_str (op : BinOp) (t : TypeId) (x y : Operand) (p q : ByteArray) (w : World) : (eqGuard op t x y (.string p) (.string q)).run P w = .ok () w := by
  cases op <;> simp [eqGuard]
theorem run_eqGuard_bool (op : BinOp) (t : TypeId) (x y : Operand) (p q : Bool) (w : World) : (eqGuard op t x y (.bool p) (.bool q)).run P w = .ok () w := by
  cases op <;> simp [eqGuard]

theorem run_bin_int {op : BinOp} {t : TypeId} {i : IntKind} {p q : Int} {k : AV → Prop} (h : intBin op i p q k) (w : World) :
    ∃ v, (binOp op t (.int i p) (.int i q)).run P w = .ok v w ∧ Scal k v := by
  cases op
  case shr =>
    have h : 0 ≤ q ∧ k (.val (.int i (p.fdiv (2 ^ (min q.toNat i.bits))))) := h
    refine ⟨.int i (p.fdiv (2 ^ (min q.toNat i.bits))), ?_, rfl, h.2⟩
    show (Op.shift .shr i p i q).run P w = _
    unfold Op.shift
    rw [if_neg (Int.not_lt.2 h.1)]
    rfl
  case and =>
    have h : k (.val (.int i (i.wrap (BitVec.ofInt i.bits p &&& BitVec.ofInt i.bits q).toNat))) := h
    refine ⟨.int i (i.wrap (BitVec.ofInt i.bits p &&& BitVec.ofInt i.bits q).toNat), ?_, rfl, h⟩
    simp only [binOp, ne_eq, not_true_eq_false, if_false, Op.intBits]
    rfl
  all_goals simp only [intBin] at h <;> first
    | exact h.elim
    | (exact ⟨_, (by simp [binOp, Op.intArith]; try rfl), rfl, sWrap_out h⟩)
    | (exact ⟨_, (by simp [binOp, Op.intDiv, h.1]; try rfl), rfl, sWrap_out h.2⟩)
    | (exact ⟨_, (by simp [binOp, Op.intDiv, h.1]; try rfl), rfl, h.2⟩)
    | (exact ⟨_, (by simp [binOp, Op.intCmp]; try rfl), rfl, h⟩)

theorem run_bin_str {op : BinOp} {t : TypeId} {p q : ByteArray} {k : AV → Prop} (h : strBin op p q k) (w : World) :
    ∃ v, (binOp op t (.string p) (.string q)).run P w = .ok v w ∧ Scal k v := by
  cases op <;> simp only [strBin] at h <;> first
    | exact h.elim
    | (refine ⟨.string (p ++ q), ?_, rfl, h.2⟩
       have h1 : ¬ (((p.size + q.size : Nat) : Int) > IntKind.i64.max) := by
         have := h.1
         have : IntKind.i64.max = 9223372036854775807 := by decide
         omega
       simp only [binOp, Op.stringOp, h1, if_false]
       rfl)
    | (exact ⟨_, (by simp [binOp, Op.stringOp]; try rfl), rfl, h⟩)

theorem kind_of {t : TypeId} {ti : TI} (h : tiOf P t = some ti) : ∃ i d z, P.info? t = some i ∧ P.underlying t = some d ∧ i.zero = some z ∧ ti.agg = aggOf P t ∧ ti.size = i.size ∧ ti.bytes = i.bytes ∧ ti.zero = cAV z ∧
    ti.fields = (match d with | .struct fs => fs.toList.map fun f => (f.offset, sizeOf' P f.type, aggOf P f.type) | _ => []) ∧ ti.elem = (match d with | .slice e => e | _ => 0) ∧
    ti.kind = (match d with | .int k => .int k | .bool => .bool | .string => .string | .slice _ => .slice | .struct _ => .struct | .interface _ => .iface | _ => .other) := by
  unfold tiOf at h
  split at h
  · rename_i i d hi hd
    split at h
    · rename_i z hz
      split at h
      · cases h
      · cases h
        exact ⟨i, d, z, hi, hd, hz, rfl, rfl, rfl, rfl, rfl, rfl, rfl⟩
    · cases h
  · cases h

theorem fields_of {t : TypeId} {ti : TI} (h : tiOf P t = some ti) : ∀ fs, P.underlying t = some (.struct fs) → ∀ f, f ∈ fs.toList → (P.info? f.type).isSome = true ∧ (P.underlying f.type).isSome = true := by
  intro fs hfs f hf
  unfold tiOf at h
  split at h
  · rename_i i d hi hd
    rw [hfs] at hd; cases hd
    split at h
    · split at h
      · cases h
      · rename_i hn
        have hn' : fs.toList.all (fun f => (P.info? f.type).isSome && (P.underlying f.type).isSome) = true := (Bool.not_eq_false _).mp hn
        simpa using List.all_eq_true.1 hn' f hf
    · cases h
  · cases h

theorem kind_bool {t : TypeId} {ti : TI} (h : tiOf P t = some ti) (hk : ti.kind = .bool) : P.underlying t = some .bool := by
  obtain ⟨i, d, z, hi, hd, hz, _, _, _, _, _, _, hkk⟩ := kind_of h
  rw [hd]; rw [hk] at hkk
  cases d <;> simp at hkk <;> rfl
theorem kind_int {t : TypeId} {ti : TI} {k : IntKind} (h : tiOf P t = some ti) (hk : ti.kind = .int k) : P.underlying t = some (.int k) := by
  obtain ⟨i, d, z, hi, hd, hz, _, _, _, _, _, _, hkk⟩ := kind_of h
  rw [hd]; rw [hk] at hkk
  cases d <;> simp at hkk
  rw [hkk]
theorem kind_string {t : TypeId} {ti : TI} (h : tiOf P t = some ti) (hk : ti.kind = .string) : P.underlying t = some .string := by
  obtain ⟨i, d, z, hi, hd, hz, _, _, _, _, _, _, hkk⟩ := kind_of h
  rw [hd]; rw [hk] at hkk
  cases d <;> simp at hkk <;> rfl
theorem kind_iface {t : TypeId} {ti : TI} (h : tiOf P t = some ti) (hk : ti.kind = .iface) : ∃ ms, P.underlying t = some (.interface ms) := by
  obtain ⟨i, d, z, hi, hd, hz, _, _, _, _, _, _, hkk⟩ := kind_of h
  rw [hd]; rw [hk] at hkk
  cases d <;> simp at hkk
  exact ⟨_, rfl⟩
theorem kind_slice {t : TypeId} {ti : TI} (h : tiOf P t = some ti) (hk : ti.kind = .slice) : P.underlying t = some (.slice ti.elem) := by
  obtain ⟨i, d, z, hi, hd, hz, _, _, _, _, _, he, hkk⟩ := kind_of h
  rw [hd]; rw [hk] at hkk
  cases d <;> simp at hkk
  rw [he]

theorem run_bin {op : BinOp} {t : TypeId} {ti : TI} (ht : tiOf P t = some ti) {x y : AV} {u v : Value} (hx : RV w S φ x u) (hy : RV w S φ y v) {ox oy : Operand} {k : AV → Prop}
    (h : sBin op ti.kind x y k) : ∃ r, (do eqGuard op t ox oy u v; binOp op t u v : Sem Value).run P w = .ok r w ∧ Scal k r := by
  unfold sBin at h
  split at h
  · obtain ⟨rfl, _⟩ := rv_val hx
    obtain ⟨rfl, _⟩ := rv_val hy
    obtain ⟨rfl, h⟩ := h
    obtain ⟨r, h1, h2⟩ := run_bin_int (P := P) (t := t) h w
    exact ⟨r, by simp [run_eqGuard_int, h1], h2⟩
  · obtain ⟨rfl, _⟩ := rv_val hx
    obtain ⟨rfl, _⟩ := rv_val hy
    obtain ⟨r, h1, h2⟩ := run_bin_str (P := P) (t := t) h w
    exact ⟨r, by simp [run_eqGuard_str, h1], h2⟩
  · obtain ⟨rfl, _⟩ := rv_val hx
    obtain ⟨rfl, _⟩ := rv_val hy
    split at h
    · rename_i hk
      exact ⟨_, (by simp [run_eqGuard_bool, binOp, Op.equal, Op.maxDepth, run_equalIn_bool' w 9999 t _ _ (kind_bool ht (by assumption))]; try rfl), rfl, h⟩
    · rename_i hk
      exact ⟨_, (by simp [run_eqGuard_bool, binOp, Op.equal, Op.maxDepth, run_equalIn_bool' w 9999 t _ _ (kind_bool ht (by assumption))]; try rfl), rfl, h⟩
    · exact h.elim
  · exact h.elim

/- structs of plain cells, compared -/
inductive FK where
  | int (k : IntKind)
  | bool
  | string
def fkOf (P : Program) : Nat → List Field → Option (List FK)
  | _, [] => some []
  | o, f :: r => if f.name ≠ "_" ∧ f.offset = o then match P.underlying f.type with
      | some (.int k) => (fkOf P (o + 1) r).map (FK.int k :: ·)
      | some .bool => (fkOf P (o + 1) r).map (FK.bool :: ·)
      | some .string => (fkOf P (o + 1) r).map (FK.string :: ·)
      | _ => none
    else none
def flatK (P : Program) (t : TypeId) : Option (List FK) :=
  if P.stoodInHeld t = false ∧ P.eqGuardType P.depth t = false then match P.underlying t with
    | some (.struct fs) => fkOf P 0 fs.toList
    | _ => none
  else none
def sFK (x : Option (List FK)) (k : List FK → Prop) : Prop := match x with | some l => k l | none => False
@[congr] theorem sFK_congr {x x' : Option (List FK)} {k : List FK → Prop} (h : x = x') : sFK x k = sFK x' k := by rw [h]
theorem sFK_some (l : List FK) (k : List FK → Prop) : sFK (some l) k = k l := rfl
def sCellE (f : FK) (x y : AV) (k : Bool → Prop) : Prop := match f, x, y with
  | .int i, .val (.int j a), .val (.int j' b) => (j = i ∧ j' = i) ∧ k (a == b)
  | .bool, .val (.bool a), .val (.bool b) => k (a == b)
  | .string, .val (.string a), .val (.string b) => k (a.toList == b.toList)
  | _, _, _ => False
theorem sCellE_int (i : IntKind) (a b : Int) (k : Bool → Prop) : sCellE (.int i) (.val (.int i a)) (.val (.int i b)) k = k (a == b) := by simp [sCellE]
theorem sCellE_bool (a b : Bool) (k : Bool → Prop) : sCellE .bool (.val (.bool a)) (.val (.bool b)) k = k (a == b) := rfl
theorem sCellE_string (a b : ByteArray) (k : Bool → Prop) : sCellE .string (.val (.string a)) (.val (.string b)) k = k (a.toList == b.toList) := rfl
def sAggE (k : Bool → Prop) : Bool → List FK → List AV → List AV → Prop
  | acc, [], [], [] => k acc
  | acc, f :: fs, x :: xs, y :: ys => sCellE f x y fun b => sAggE k (acc && b) fs xs ys
  | _, _, _, _ => False
theorem sAggE_nil (k : Bool → Prop) (acc : Bool) : sAggE k acc [] [] [] = k acc := rfl
theorem sAggE_cons (k : Bool → Prop) (acc : Bool) (f : FK) (fs : List FK) (x y : AV) (xs ys : List AV) : sAggE k acc (f :: fs) (x :: xs) (y :: ys) = sCellE f x y fun b => sAggE k (acc && b) fs xs ys := rfl
def sEqR (op : BinOp) (c : Bool) (k : AV → Prop) : Prop := match op with | .eql => k (.val (.bool c)) | .neq => k (.val (.bool (!c))) | _ => False
theorem sEqR_eql (c : Bool) (k : AV → Prop) : sEqR .eql c k = k (.val (.bool c)) := rfl
theorem sEqR_neq (c : Bool) (k : AV → Prop) : sEqR .neq c k = k (.val (.bool (!c))) := rfl
/-- a function value held against nil: the answer for two nils -/
def fnRes (P : Program) (t : TypeId) (op : BinOp) : Option Bool := match P.underlying t, op with
  | some (.func _ _ _), .eql => some true
  | some (.func _ _ _), .neq => some false
  | _, _ => none
def sOptB (x : Option Bool) (k : Bool → Prop) : Prop := match x with | some b => k b | none => False
@[congr] theorem sOptB_congr {x x' : Option Bool} {k : Bool → Prop} (h : x = x') : sOptB x k = sOptB x' k := by rw [h]
theorem sOptB_some (b : Bool) (k : Bool → Prop) : sOptB (some b) k = k b := rfl
def sBinS (P : Program) (t : TypeId) (op : BinOp) (a b : AV) (k : AV → Prop) (rest : Prop) : Prop := match a, b with
  | .agg xs, .agg ys => sFK (flatK P t) fun ks => sAggE (fun c => sEqR op c k) true ks xs ys
  | .val .nilFunc, .val .nilFunc => sOptB (fnRes P t op) fun c => k (.val (.bool c))
  | _, _ => rest
@[congr] theorem sBinS_congr {P : Program} {t : TypeId} {op : BinOp} {a b a' b' : AV} {k : AV → Prop} {rest : Prop} (h : a = a') (h' : b = b') : sBinS P t op a b k rest = sBinS P t op a' b' k rest := by rw [h, h']
theorem sBinS_agg (P : Program) (t : TypeId) (op : BinOp) (xs ys : List AV) (k : AV → Prop) (rest : Prop) : sBinS P t op (.agg xs) (.agg ys) k rest = sFK (flatK P t) fun ks => sAggE (fun c => sEqR op c k) true ks xs ys := rfl
theorem sBinS_fn (P : Program) (t : TypeId) (op : BinOp) (k : AV → Prop) (rest : Prop) : sBinS P t op (.val .nilFunc) (.val .nilFunc) k rest = sOptB (fnRes P t op) fun c => k (.val (.bool c)) := rfl
theorem sBinS_int (P : Program) (t : TypeId) (op : BinOp) (i : IntKind) (n : Int) (b : AV) (k : AV → Prop) (rest : Prop) : sBinS P t op (.val (.int i n)) b k rest = rest := by cases b <;> rfl
theorem sBinS_bool (P : Program) (t : TypeId) (op : BinOp) (n : Bool) (b : AV) (k : AV → Prop) (rest : Prop) : sBinS P t op (.val (.bool n)) b k rest = rest := by cases b <;> rfl
theorem sBinS_string (P : Program) (t : TypeId) (op : BinOp) (n : ByteArray) (b : AV) (k : AV → Prop) (rest : Prop) : sBinS P t op (.val (.string n)) b k rest = rest := by cases b <;> rfl
theorem sBinS_slice (P : Program) (t : TypeId) (op : BinOp) (x : Option Addr) (n c : Nat) (b : AV) (k : AV → Prop) (rest : Prop) : sBinS P t op (.val (.slice x n c)) b k rest = rest := by cases b <;> rfl
theorem sBinS_pointer (P : Program) (t : TypeId) (op : BinOp) (x : Option Addr) (b : AV) (k : AV → Prop) (rest : Prop) : sBinS P t op (.val (.pointer x)) b k rest = rest := by cases b <;> rfl
theorem sBinS_nilIface (P : Program) (t : TypeId) (op : BinOp) (b : AV) (k : AV → Prop) (rest : Prop) : sBinS P t op (.val .nilIface) b k rest = rest := by cases b <;> rfl
theorem sBinS_iface (P : Program) (t : TypeId) (op : BinOp) (t2 : TypeId) (v : Value) (b : AV) (k : AV → Prop) (rest : Prop) : sBinS P t op (.val (.iface t2 v)) b k rest = rest := by cases b <;> rfl
theorem sBinS_arr (P : Program) (t : TypeId) (op : BinOp) (sh : Sh) (xs : List AV) (b : AV) (k : AV → Prop) (rest : Prop) : sBinS P t op (.arr sh xs) b k rest = rest := by cases b <;> rfl
theorem sBinS_ref (P : Program) (t : TypeId) (op : BinOp) (l v i n : Nat) (b : AV) (k : AV → Prop) (rest : Prop) : sBinS P t op (.ref l v i n) b k rest = rest := by cases b <;> rfl
theorem sBinS_e0 (P : Program) (t : TypeId) (op : BinOp) (b : AV) (k : AV → Prop) (rest : Prop) : sBinS P t op .e0 b k rest = rest := by cases b <;> rfl
theorem sBinS_ptr (P : Program) (t : TypeId) (op : BinOp) (l v i j : Nat) (b : AV) (k : AV → Prop) (rest : Prop) : sBinS P t op (.ptr l v i j) b k rest = rest := by cases b <;> rfl

theorem part_cell {t : TypeId} {cs : Array Value} {o : Nat} {v : Value} (ht : aggOf P t = false) (hu : (P.underlying t).isSome = true) (hv : cs[o]? = some v) (w : World) : (part t cs o).run P w = .ok v w := by
  unfold part
  rw [Sem.run_bind]
  have : (isAgg t).run P w = .ok false w := by
    unfold isAgg
    cases hd : P.underlying t with
    | none => rw [hd] at hu; cases hu
    | some d =>
      simp only [Sem.run_bind, run_underlying hd, Result.andThen_ok]
      unfold aggOf at ht
      rw [hd] at ht
      cases d <;> first | rfl | (exact absurd ht (by decide)) | simp_all
  rw [this]
  simp [hv]
theorem agg_run {d : Nat} {cs ds : Array Value} : ∀ (fs : List Field) (o : Nat) (ks : List FK) (xs ys : List AV) (acc : Bool) (k : Bool → Prop), fkOf P o fs = some ks → sAggE k acc ks xs ys →
    (∀ i (h : i < xs.length), RV w S φ xs[i] (cs.toList.getD (o + i) Go.undef)) → (∀ i (h : i < ys.length), RV w S φ ys[i] (ds.toList.getD (o + i) Go.undef)) →
    o + xs.length ≤ cs.size → o + ys.length ≤ ds.size → ∃ c : Bool, (Op.eqFields (d + 1) cs ds fs).run P w = .ok c w ∧ k (acc && c)
  | [], o, ks, xs, ys, acc, k, hf, hk, hx, hy, hc, hd => by
    simp only [fkOf, Option.some.injEq] at hf
    subst hf
    cases xs with
    | cons => cases ys <;> exact hk.elim
    | nil =>
      cases ys with
      | cons => exact hk.elim
      | nil => exact ⟨true, rfl, by rw [Bool.and_true]; exact hk⟩
  | f :: fs, o, ks, xs, ys, acc, k, hf, hk, hx, hy, hc, hd => by
    unfold fkOf at hf
    split at hf
    · rename_i hn
      have key : ∀ (fk : FK) (r : List FK), fkOf P (o + 1) fs = some r → ks = fk :: r → aggOf P f.type = false → (P.underlying f.type).isSome = true →
          (∀ (x y : AV) (u v : Value) (k' : Bool → Prop), RV w S φ x u → RV w S φ y v → sCellE fk x y k' → ∃ b, (Op.equalIn (d + 1) f.type u v).run P w = .ok b w ∧ k' b) →
          ∃ c : Bool, (Op.eqFields (d + 1) cs ds (f :: fs)).run P w = .ok c w ∧ k (acc && c) := by
        rintro fk r hr rfl ha hu hcell
        cases xs with
        | nil => cases ys <;> exact hk.elim
        | cons x xs =>
          cases ys with
          | nil => exact hk.elim
          | cons y ys =>
            have hk : sCellE fk x y fun b => sAggE k (acc && b) r xs ys := hk
            have hx0 := hx 0 (by simp)
            have hy0 := hy 0 (by simp)
            simp only [List.length_cons] at hc hd
            have gx : cs[o]? = some (cs.toList.getD (o + 0) Go.undef) := by
              have : o < cs.size := by omega
              simp [List.getD_eq_getElem?_getD, this]
            have gy : ds[o]? = some (ds.toList.getD (o + 0) Go.undef) := by
              have : o < ds.size := by omega
              simp [List.getD_eq_getElem?_getD, this]
            obtain ⟨b, hb, hk2⟩ := hcell _ _ _ _ _ hx0 hy0 hk
            simp only [Op.eqFields]
            rw [if_pos hn.1, hn.2]
            simp only [Sem.run_bind, part_cell ha hu gx, part_cell ha hu gy, Result.andThen_ok]
            rw [hb]
            simp only [Result.andThen_ok]
            cases b with
            | false =>
              simp only [Bool.not_false, if_true]
              have : ∀ (fs : List FK) (xs ys : List AV) (k : Bool → Prop), sAggE k false fs xs ys → k false := by
                intro fs
                induction fs with
                | nil => intro xs ys k h; cases xs <;> cases ys <;> first | exact h | exact h.elim
                | cons f fs ih =>
                  intro xs ys k h
                  cases xs with
                  | nil => cases ys <;> exact h.elim
                  | cons x xs =>
                    cases ys with
                    | nil => exact h.elim
                    | cons y ys =>
                      have h : sCellE f x y fun b => sAggE k (false && b) fs xs ys := h
                      have : ∃ b, sAggE k (false && b) fs xs ys := by
                        unfold sCellE at h
                        split at h
                        · exact ⟨_, h.2⟩
                        · exact ⟨_, h⟩
                        · exact ⟨_, h⟩
                        · exact h.elim
                      obtain ⟨b, hb⟩ := this
                      rw [Bool.false_and] at hb
                      exact ih _ _ _ hb
              refine ⟨false, rfl, ?_⟩
              rw [Bool.and_false] at hk2 ⊢
              exact this _ _ _ _ hk2
            | true =>
              simp only [Bool.not_true, Bool.false_eq_true, if_false]
              rw [Bool.and_true] at hk2
              refine agg_run fs (o + 1) r xs ys acc k hr hk2 (fun i hi => ?_) (fun i hi => ?_) (by omega) (by omega)
              · have := hx (i + 1) (by simpa using hi)
                rw [show o + 1 + i = o + (i + 1) by omega]; simpa using this
              · have := hy (i + 1) (by simpa using hi)
                rw [show o + 1 + i = o + (i + 1) by omega]; simpa using this
      split at hf
      · rename_i i hu
        obtain ⟨r, hr, rfl⟩ := Option.map_eq_some_iff.1 hf
        refine key _ r hr rfl (by simp [aggOf, hu]) (by simp [hu]) fun x y u v k' hx hy hk' => ?_
        unfold sCellE at hk'
        split at hk'
        · rename_i e; cases e
          obtain ⟨rfl, _⟩ := rv_val hx
          obtain ⟨rfl, _⟩ := rv_val hy
          obtain ⟨⟨rfl, rfl⟩, hk2⟩ := hk'
          exact ⟨_, run_equalIn_int w d f.type _ _ _ _ hu, hk2⟩
        · rename_i e; cases e
        · rename_i e; cases e
        · exact hk'.elim
      · rename_i hu
        obtain ⟨r, hr, rfl⟩ := Option.map_eq_some_iff.1 hf
        refine key _ r hr rfl (by simp [aggOf, hu]) (by simp [hu]) fun x y u v k' hx hy hk' => ?_
        unfold sCellE at hk'
        split at hk'
        · rename_i e; cases e
        · obtain ⟨rfl, _⟩ := rv_val hx
          obtain ⟨rfl, _⟩ := rv_val hy
          exact ⟨_, run_equalIn_bool' w d f.type _ _ hu, hk'⟩
        · rename_i e; cases e
        · exact hk'.elim
      · rename_i hu
        obtain ⟨r, hr, rfl⟩ := Option.map_eq_some_iff.1 hf
        refine key _ r hr rfl (by simp [aggOf, hu]) (by simp [hu]) fun x y u v k' hx hy hk' => ?_
        unfold sCellE at hk'
        split at hk'
        · rename_i e; cases e
        · rename_i e; cases e
        · obtain ⟨rfl, _⟩ := rv_val hx
          obtain ⟨rfl, _⟩ := rv_val hy
          exact ⟨_, run_equalIn_string w d f.type _ _ hu, hk'⟩
        · exact hk'.elim
      · cases hf
    · cases hf
theorem run_binS {op : BinOp} {t : TypeId} {x y : AV} {u v : Value} (hx : RV w S φ x u) (hy : RV w S φ y v) {ox oy : Operand} {k : AV → Prop} {rest : Prop} (h : sBinS P t op x y k rest)
    (hr : rest → ∃ r, (do eqGuard op t ox oy u v; binOp op t u v : Sem Value).run P w = .ok r w ∧ Scal k r) : ∃ r, (do eqGuard op t ox oy u v; binOp op t u v : Sem Value).run P w = .ok r w ∧ Scal k r := by
  unfold sBinS at h
  split at h
  · rename_i xs ys
    unfold sFK at h
    split at h
    · rename_i ks hks
      unfold flatK at hks
      split at hks
      · rename_i hst
        split at hks
        · rename_i fs hfs
          obtain ⟨cs, rfl, hc1, _, hc2⟩ := rv_agg hx
          obtain ⟨ds, rfl, hd1, _, hd2⟩ := rv_agg hy
          have hfo : P.fieldsOf t = fs := by simp [Program.fieldsOf, hfs]
          obtain ⟨c, h1, h2⟩ := agg_run (d := 9998) (cs := cs) (ds := ds) fs.toList 0 ks xs ys true _ hks h (fun i hi => by rw [Nat.zero_add]; exact hc2 i hi) (fun i hi => by rw [Nat.zero_add]; exact hd2 i hi) (by omega) (by omega)
          have he : (Op.equalIn 10000 t (.agg cs) (.agg ds)).run P w = .ok c w := by
            rw [run_equalIn_agg w 9999 t cs ds (by rw [hfo]; exact hfs) hst.1, hfo]; exact h1
          rw [Bool.true_and] at h2
          unfold sEqR at h2
          split at h2
          · exact ⟨.bool c, by simp only [Sem.run_bind, run_eqGuard_agg w _ t ox oy cs ds hst.2, Result.andThen_ok, run_eql_struct, he], rfl, h2⟩
          · exact ⟨.bool (!c), by simp only [Sem.run_bind, run_eqGuard_agg w _ t ox oy cs ds hst.2, Result.andThen_ok, run_neq_struct, he], rfl, h2⟩
          · exact h2.elim
        · cases hks
      · cases hks
    · exact h.elim
  · obtain ⟨rfl, _⟩ := rv_val hx
    obtain ⟨rfl, _⟩ := rv_val hy
    have hg : (eqGuard op t ox oy .nilFunc .nilFunc).run P w = .ok () w := by cases op <;> simp [eqGuard]
    unfold sOptB at h
    split at h
    · rename_i c hc
      unfold fnRes at hc
      split at hc
      · rename_i hu
        injection hc with hc
        subst hc
        have e2 : ∀ (d : Nat), (Op.equalIn (d + 1) t .nilFunc .nilFunc).run P w = .ok true w := fun d => by rw [Op.equalIn]; simp [run_underlying hu]
        exact ⟨_, (by simp only [Sem.run_bind, hg, Result.andThen_ok, binOp, Op.equal, Op.maxDepth]; simp [e2]), rfl, h⟩
      · rename_i hu
        injection hc with hc
        subst hc
        have e2 : ∀ (d : Nat), (Op.equalIn (d + 1) t .nilFunc .nilFunc).run P w = .ok true w := fun d => by rw [Op.equalIn]; simp [run_underlying hu]
        exact ⟨_, (by simp only [Sem.run_bind, hg, Result.andThen_ok, binOp, Op.equal, Op.maxDepth]; simp [e2]), rfl, h⟩
      · cases hc
    · exact h.elim
  · exact hr h

end
end Go.Vc
