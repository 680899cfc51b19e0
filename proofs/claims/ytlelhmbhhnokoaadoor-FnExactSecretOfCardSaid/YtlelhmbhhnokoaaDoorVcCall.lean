/-
  Contracts of functions, and calls.
-/
import Derived.Test.YtlelhmbhhnokoaaDoorVcBuild
set_option linter.unusedVariables false
set_option linter.unusedSimpArgs false
set_option linter.unnecessarySimpa false
namespace Go.Vc

/-- The result of a call: owned whole, or readable. -/
def FnRes (w w' : World) (S : Nat → Prop) (own : Bool) (r : AV) (v : Value) : Prop :=
  if own then ∃ fs, Own w' (fun _ => False) r v fs ∧ fs.Nodup ∧ ∀ b, b ∈ fs → w.heap.size ≤ b
  else Rd w' (fun b => S b ∨ (w.heap.size ≤ b ∧ b < w'.heap.size)) r v

def Enters (P : Program) (f : FuncId) : Prop := ∃ fn c, P.funcs[f]? = some fn ∧ (fn.name == "runtime.NumGoroutine") = false ∧ fn.body = some c

/-- The contract of a function that changes nothing: called with values that read so, it returns a value that reads as one that meets post. -/
def Fn (P : Program) (f : FuncId) (args : List AV) (own : Bool) (post : AV → Prop) : Prop :=
  Enters P f ∧ ∀ (w : World) (S : Nat → Prop) (vs : Array Value), (∀ b, S b → b < w.heap.size) → Kon w S → vs.size = args.length → (∀ i (h : i < args.length), Rd w S args[i] (vs.toList.getD i Go.undef)) →
    Calls P f vs w fun e w' => ∃ r v, e = .returned v ∧ post r ∧ Grown w w' ∧ FnRes w w' S own r v

theorem Fn.mono {P : Program} {f : FuncId} {args : List AV} {own : Bool} {post post' : AV → Prop} (h : Fn P f args own post) (hp : ∀ r, post r → post' r) : Fn P f args own post' :=
  ⟨h.1, fun w S vs h1 hk h2 h3 => (h.2 w S vs h1 hk h2 h3).mono fun _ _ ⟨r, v, g1, g2, g3⟩ => ⟨r, v, g1, hp r g2, g3⟩⟩

/- arguments as trees -/
def sRowT (v i n : Nat) (b : Option Blk) (k : AV → Prop) : Prop := match b with
  | some (.row v' sh _ xs) => v' = v ∧ i + n ≤ xs.length ∧ k (.arr sh ((xs.drop i).take n))
  | _ => False
@[congr] theorem sRowT_congr {v i n : Nat} {b b' : Option Blk} {k : AV → Prop} (h : b = b') : sRowT v i n b k = sRowT v i n b' k := by rw [h]
theorem sRowT_row (v i n : Nat) (sh : Sh) (d : Bool) (xs : List AV) (k : AV → Prop) : sRowT v i n (some (.row v sh d xs)) k = (i + n ≤ xs.length ∧ k (.arr sh ((xs.drop i).take n))) := by simp [sRowT]
def sLeafT (m : Mem) (x : AV) (k : AV → Prop) : Prop := match x with
  | .ref l v i n => sRowT v i n (lookB m l) k
  | .val v => k (.val v)
  | .e0 => k .e0
  | .arr sh xs => k (.arr sh xs)
  | .eptr sh xs i j => k (.eptr sh xs i j)
  | _ => False
@[congr] theorem sLeafT_congr {m : Mem} {x x' : AV} {k : AV → Prop} (h : x = x') : sLeafT m x k = sLeafT m x' k := by rw [h]
theorem sLeafT_ref (m : Mem) (l v i n : Nat) (k : AV → Prop) : sLeafT m (.ref l v i n) k = sRowT v i n (lookB m l) k := rfl
theorem sLeafT_val (m : Mem) (v : Value) (k : AV → Prop) : sLeafT m (.val v) k = k (.val v) := rfl
theorem sLeafT_e0 (m : Mem) (k : AV → Prop) : sLeafT m .e0 k = k .e0 := rfl
theorem sLeafT_arr (m : Mem) (sh : Sh) (xs : List AV) (k : AV → Prop) : sLeafT m (.arr sh xs) k = k (.arr sh xs) := rfl
def sLeavesT (m : Mem) (k : List AV → Prop) : List AV → List AV → Prop
  | acc, [] => k acc.reverse
  | acc, x :: r => sLeafT m x fun y => sLeavesT m k (y :: acc) r
theorem sLeavesT_nil (m : Mem) (k : List AV → Prop) (acc : List AV) : sLeavesT m k acc [] = k acc.reverse := rfl
theorem sLeavesT_cons (m : Mem) (k : List AV → Prop) (acc : List AV) (x : AV) (r : List AV) : sLeavesT m k acc (x :: r) = sLeafT m x fun y => sLeavesT m k (y :: acc) r := rfl
def sTree (m : Mem) (x : AV) (k : AV → Prop) : Prop := match x with
  | .agg xs => sLeavesT m (fun ys => k (.agg ys)) [] xs
  | .ptr _ _ _ _ => k .undef
  | .clo _ _ => k .undef
  | x => sLeafT m x k
theorem sTree_clo (m : Mem) (f : FuncId) (xs : List AV) (k : AV → Prop) : sTree m (.clo f xs) k = k .undef := rfl
theorem sTree_ptr (m : Mem) (l v i j : Nat) (k : AV → Prop) : sTree m (.ptr l v i j) k = k .undef := rfl
@[congr] theorem sTree_congr {m : Mem} {x x' : AV} {k : AV → Prop} (h : x = x') : sTree m x k = sTree m x' k := by rw [h]
theorem sTree_agg (m : Mem) (xs : List AV) (k : AV → Prop) : sTree m (.agg xs) k = sLeavesT m (fun ys => k (.agg ys)) [] xs := rfl
theorem sTree_ref (m : Mem) (l v i n : Nat) (k : AV → Prop) : sTree m (.ref l v i n) k = sRowT v i n (lookB m l) k := rfl
theorem sTree_val (m : Mem) (v : Value) (k : AV → Prop) : sTree m (.val v) k = k (.val v) := rfl
theorem sTree_e0 (m : Mem) (k : AV → Prop) : sTree m .e0 k = k .e0 := rfl
theorem sTree_arr (m : Mem) (sh : Sh) (xs : List AV) (k : AV → Prop) : sTree m (.arr sh xs) k = k (.arr sh xs) := rfl
def sTrees (m : Mem) (k : List AV → Prop) : List AV → List AV → Prop
  | acc, [] => k acc.reverse
  | acc, x :: r => sTree m x fun y => sTrees m k (y :: acc) r
theorem sTrees_nil (m : Mem) (k : List AV → Prop) (acc : List AV) : sTrees m k acc [] = k acc.reverse := rfl
theorem sTrees_cons (m : Mem) (k : List AV → Prop) (acc : List AV) (x : AV) (r : List AV) : sTrees m k acc (x :: r) = sTree m x fun y => sTrees m k (y :: acc) r := rfl

/- an owned result under labels -/
def sMatL (l : Nat) (x : AV) (m : Mem) (k : AV → Mem → Prop) : Prop := match x with
  | .arr sh xs => k (.ref l (newVer m l) 0 xs.length) ((l, .row (newVer m l) sh true xs) :: m)
  | x => k x m
@[congr] theorem sMatL_congr {l : Nat} {x x' : AV} {m : Mem} {k : AV → Mem → Prop} (h : x = x') : sMatL l x m k = sMatL l x' m k := by rw [h]
theorem sMatL_arr (l : Nat) (sh : Sh) (xs : List AV) (m : Mem) (k : AV → Mem → Prop) : sMatL l (.arr sh xs) m k = k (.ref l (newVer m l) 0 xs.length) ((l, .row (newVer m l) sh true xs) :: m) := rfl
theorem sMatL_val (l : Nat) (v : Value) (m : Mem) (k : AV → Mem → Prop) : sMatL l (.val v) m k = k (.val v) m := rfl
theorem sMatL_e0 (l : Nat) (m : Mem) (k : AV → Mem → Prop) : sMatL l .e0 m k = k .e0 m := rfl
def sMats (k : List AV → Mem → Prop) : Nat → List AV → Mem → List AV → Prop
  | _, acc, m, [] => k acc.reverse m
  | l, acc, m, x :: r => sMatL l x m fun y m' => sMats k (l + 1) (y :: acc) m' r
theorem sMats_nil (k : List AV → Mem → Prop) (l : Nat) (acc : List AV) (m : Mem) : sMats k l acc m [] = k acc.reverse m := rfl
theorem sMats_cons (k : List AV → Mem → Prop) (l : Nat) (acc : List AV) (m : Mem) (x : AV) (r : List AV) : sMats k l acc m (x :: r) = sMatL l x m fun y m' => sMats k (l + 1) (y :: acc) m' r := rfl
def sMatA (l : Nat) (x : AV) (m : Mem) (k : AV → Mem → Prop) : Prop := match x with
  | .agg xs => sMats (fun ys m' => k (.agg ys) m') l [] m xs
  | .tup _ => False
  | x => sMatL l x m k
@[congr] theorem sMatA_congr {l : Nat} {x x' : AV} {m : Mem} {k : AV → Mem → Prop} (h : x = x') : sMatA l x m k = sMatA l x' m k := by rw [h]
theorem sMatA_agg (l : Nat) (xs : List AV) (m : Mem) (k : AV → Mem → Prop) : sMatA l (.agg xs) m k = sMats (fun ys m' => k (.agg ys) m') l [] m xs := rfl
theorem sMatA_arr (l : Nat) (sh : Sh) (xs : List AV) (m : Mem) (k : AV → Mem → Prop) : sMatA l (.arr sh xs) m k = k (.ref l (newVer m l) 0 xs.length) ((l, .row (newVer m l) sh true xs) :: m) := rfl
theorem sMatA_val (l : Nat) (v : Value) (m : Mem) (k : AV → Mem → Prop) : sMatA l (.val v) m k = k (.val v) m := rfl
theorem sMatA_e0 (l : Nat) (m : Mem) (k : AV → Mem → Prop) : sMatA l .e0 m k = k .e0 m := rfl
def sMatTs (k : List AV → Mem → Prop) : Nat → List AV → Mem → List AV → Prop
  | _, acc, m, [] => k acc.reverse m
  | l, acc, m, x :: r => sMatA l x m fun y m' => sMatTs k (l + 16) (y :: acc) m' r
theorem sMatTs_nil (k : List AV → Mem → Prop) (l : Nat) (acc : List AV) (m : Mem) : sMatTs k l acc m [] = k acc.reverse m := rfl
theorem sMatTs_cons (k : List AV → Mem → Prop) (l : Nat) (acc : List AV) (m : Mem) (x : AV) (r : List AV) : sMatTs k l acc m (x :: r) = sMatA l x m fun y m' => sMatTs k (l + 16) (y :: acc) m' r := rfl
def sMat (l : Nat) (x : AV) (m : Mem) (k : AV → Mem → Prop) : Prop := match x with
  | .tup xs => sMatTs (fun ys m' => k (.tup ys) m') l [] m xs
  | x => sMatA l x m k
@[congr] theorem sMat_congr {l : Nat} {x x' : AV} {m : Mem} {k : AV → Mem → Prop} (h : x = x') : sMat l x m k = sMat l x' m k := by rw [h]
theorem sMat_tup (l : Nat) (xs : List AV) (m : Mem) (k : AV → Mem → Prop) : sMat l (.tup xs) m k = sMatTs (fun ys m' => k (.tup ys) m') l [] m xs := rfl
theorem sMat_agg (l : Nat) (xs : List AV) (m : Mem) (k : AV → Mem → Prop) : sMat l (.agg xs) m k = sMats (fun ys m' => k (.agg ys) m') l [] m xs := rfl
theorem sMat_arr (l : Nat) (sh : Sh) (xs : List AV) (m : Mem) (k : AV → Mem → Prop) : sMat l (.arr sh xs) m k = k (.ref l (newVer m l) 0 xs.length) ((l, .row (newVer m l) sh true xs) :: m) := rfl
theorem sMat_val (l : Nat) (v : Value) (m : Mem) (k : AV → Mem → Prop) : sMat l (.val v) m k = k (.val v) m := rfl
theorem sMat_e0 (l : Nat) (m : Mem) (k : AV → Mem → Prop) : sMat l .e0 m k = k .e0 m := rfl

def isClo : AV → Bool | .clo _ _ => true | _ => false
def noLabs : List AV → Prop | [] => True | x :: r => (labs x = [] ∧ isClo x = false) ∧ noLabs r
theorem noLabs_nil : noLabs [] = True := rfl
theorem noLabs_cons (x : AV) (r : List AV) : noLabs (x :: r) = ((labs x = [] ∧ isClo x = false) ∧ noLabs r) := rfl

/-- What follows a call's contract. -/
def sRes (own : Bool) (d : Nat) (m : Mem) (r : AV) (k : AV → Mem → Prop) : Prop := if own then sMat (1000 * (d + 1)) r m k else k r m
theorem sRes_own (d : Nat) (m : Mem) (r : AV) (k : AV → Mem → Prop) : sRes true d m r k = sMat (1000 * (d + 1)) r m k := rfl
theorem sRes_shared (d : Nat) (m : Mem) (r : AV) (k : AV → Mem → Prop) : sRes false d m r k = k r m := rfl
/-- Keeps the simplifier out of what depends on it. -/
structure Pack {α : Type} (k : α) : Type where
/-- What a call of f does from any frame and world that the state describes. -/
def sCallIo (P : Program) (f : FuncId) (xs : List AV) (m : Mem) (k : AV → Mem → Prop) : Prop :=
  ∀ (B : Base) (N : Nat) (φ : Nat → LS) (fp : Nat → List Nat) (S : Nat → Prop) (ts : Env) (a : Act) (w : World) (vs : Array Value), RS B N φ fp S ts m a w → vs.size = xs.length →
    (∀ i (h : i < xs.length), RV w S φ xs[i] (vs.toList.getD i Go.undef)) → (∀ i (h : i < xs.length) l ver, (l, ver) ∈ labs xs[i] → known m l ver) →
    Enters P f ∧ Calls P f vs w fun e w' => ∃ v, e = .returned v ∧ Gives B N a (fun x ts' m' => ts' = ts ∧ k x m') v w'
def sCallT (P : Program) (f : FuncId) (d : Nat) (xs ts : List AV) (m : Mem) (k : AV → Mem → Prop) (_ : Pack k) : Prop := sCallIo P f xs m k ∨ ∃ own post, Fn P f ts own post ∧ (own = false → noLabs xs) ∧ ∀ r, post r → sRes own d m r k
def sCall (P : Program) (f : FuncId) (d : Nat) (xs : List AV) (m : Mem) (k : AV → Mem → Prop) : Prop := sTrees m (fun ts => sCallT P f d xs ts m k ⟨⟩) [] xs
@[congr] theorem sCall_congr {P : Program} {f : FuncId} {d : Nat} {xs xs' : List AV} {m : Mem} {k : AV → Mem → Prop} (h : xs = xs') : sCall P f d xs m k = sCall P f d xs' m k := by rw [h]
theorem sCall_eq (P : Program) (f : FuncId) (d : Nat) (x : AV) (xs : List AV) (m : Mem) (k : AV → Mem → Prop) : sCall P f d (x :: xs) m k = sTrees m (fun ts => sCallT P f d (x :: xs) ts m k ⟨⟩) [] (x :: xs) := rfl
theorem sCall_nil (P : Program) (f : FuncId) (d : Nat) (m : Mem) (k : AV → Mem → Prop) : sCall P f d [] m k = sCallT P f d [] [] m k ⟨⟩ := rfl
@[congr] theorem sCallT_congr {P : Program} {f : FuncId} {d : Nat} {xs ts ts' : List AV} {m : Mem} {k : AV → Mem → Prop} {q : Pack k} (h : ts = ts') : sCallT P f d xs ts m k q = sCallT P f d xs ts' m k q := by rw [h]

/-- By a contract with one answer. -/
theorem sCallT_one {P : Program} {f : FuncId} {d : Nat} {xs ts : List AV} {m : Mem} {k : AV → Mem → Prop} {r : AV} (h : Fn P f ts true (· = r)) (hk : sMat (1000 * (d + 1)) r m k) {q : Pack k} : sCallT P f d xs ts m k q :=
  .inr ⟨true, _, h, fun h => (by cases h), fun _ e => e ▸ hk⟩
theorem sCallT_any {P : Program} {f : FuncId} {d : Nat} {xs ts : List AV} {m : Mem} {k : AV → Mem → Prop} {post : AV → Prop} (h : Fn P f ts true post) (hk : ∀ r, post r → sMat (1000 * (d + 1)) r m k) {q : Pack k} : sCallT P f d xs ts m k q :=
  .inr ⟨true, _, h, fun h => (by cases h), hk⟩
/-- The same, the result may share. -/
theorem sCallS_one {P : Program} {f : FuncId} {d : Nat} {xs ts : List AV} {m : Mem} {k : AV → Mem → Prop} {r : AV} (h : Fn P f ts false (· = r)) (hl : noLabs xs) (hk : k r m) {q : Pack k} : sCallT P f d xs ts m k q :=
  .inr ⟨false, _, h, fun _ => hl, fun _ e => e ▸ hk⟩

section
variable {P : Program} {B : Base} {N : Nat} {φ : Nat → LS} {fp : Nat → List Nat} {S : Nat → Prop} {ts : Env} {m : Mem} {a : Act} {w : World}

/-- All that is there. -/
def Now (w : World) : Nat → Prop := fun b => b < w.heap.size

theorem Own.now {S : Nat → Prop} {x : AV} {v : Value} {fs : List Nat} (h : Own w S x v fs) (hS : ∀ b, S b → b < w.heap.size) : Rd w (Now w) x v := h.rd_of hS fun b hb => h.lt b hb

theorem leafT_out (h : RS B N φ fp S ts m a w) {x : AV} {v : Value} (hx : RV w S φ x v) {k : AV → Prop} (hk : sLeafT m x k) : ∃ y, k y ∧ Rd w (Now w) y v ∧ leaf y ∧ (labs x = [] → Rd w S y v) := by
  have hS : ∀ b, S b → Now w b := fun b hb => (h.sB b hb).1
  unfold sLeafT at hk
  split at hk
  · rename_i l ver i n
    have hr := rv_ref hx
    unfold sRowT at hk
    split at hk
    · rename_i v' sh deep xs hlk
      obtain ⟨rfl, hin, hk⟩ := hk
      refine ⟨_, hk, ?_, trivial, fun hl => by simp [labs] at hl⟩
      have hlen : ((xs.drop i).take n).length = n := by simp; omega
      rcases h.mSome l _ hlk with ⟨h1, h2, h3⟩ | ⟨b, cap, hφ, hbm, hdp, hown⟩
      · obtain ⟨rfl, ad, rfl⟩ := hr.2 h1
        rw [List.take_zero]; exact .nil _ _
      · obtain ⟨ad, cp, rfl, hnc, hcp⟩ := hr.1 b sh hφ
        obtain ⟨cs, e, fss, hgf, hheap, hcs, hcap, hmx, hff, hfl, hvv⟩ := row_inv hown hbm
        by_cases hc0 : cp = 0
        · have : n = 0 := by omega
          subst this; subst hc0
          rw [List.take_zero]; exact .nil _ _
        · obtain ⟨rfl, cs', e', g1, g2⟩ := hcp.resolve_left hc0
          rw [hheap] at g1; cases g1
          have hroom : i * sh.sz + n * sh.sz ≤ cs.size := by
            rw [g2, ← Nat.add_mul]; exact Nat.mul_le_mul_right _ (by omega)
          have hb : Now w b := (h.fpB l b hbm).1
          have := Rd.arr (w := w) (S := Now w) sh ((xs.drop i).take n) b (i * sh.sz) cp cs e (0, 0) hb hheap (by rw [hlen]; exact hnc) (by rw [hlen]; exact hroom)
            (fun q hq => by rw [hlen] at hq; simp only [List.getElem_take, List.getElem_drop]; exact hff _ (by omega))
            (fun q hq => by
              rw [hlen] at hq
              simp only [List.getElem_take, List.getElem_drop]
              have := (hvv (i + q) (by omega)).now (fun c hc => by
                cases deep with
                | true => exact hc.elim
                | false => exact (h.sB c hc).1)
              rwa [Nat.add_mul] at this)
          rw [hlen] at this
          exact this
    · exact hk.elim
  · obtain ⟨rfl, h1⟩ := rv_val hx
    exact ⟨_, hk, .val _ h1, trivial, fun _ => .val _ h1⟩
  · obtain ⟨ad, rfl⟩ := rv_e0 hx
    exact ⟨_, hk, .e0 _, trivial, fun _ => .e0 _⟩
  · exact ⟨_, hk, (rv_arr hx).mono (fun _ _ => rfl) hS, trivial, fun _ => rv_arr hx⟩
  · exact ⟨_, hk, (rv_eptr hx).mono (fun _ _ => rfl) hS, trivial, fun _ => rv_eptr hx⟩
  · exact hk.elim

/-- Lists of values that read pointwise. -/
def RdL (R : AV → Value → Prop) (xs : List AV) (vs : List Value) : Prop := vs.length = xs.length ∧ ∀ i (h : i < xs.length), R xs[i] (vs.getD i Go.undef)
theorem RdL.snoc {R : AV → Value → Prop} {xs : List AV} {vs : List Value} (h : RdL R xs vs) {x : AV} {v : Value} (hx : R x v) : RdL R (xs ++ [x]) (vs ++ [v]) := by
  refine ⟨by simp [h.1], fun i hi => ?_⟩
  simp only [List.length_append, List.length_singleton] at hi
  rw [List.getElem_append]
  split
  · rename_i hlt
    have := h.2 i hlt
    rwa [List.getD_eq_getElem?_getD, List.getElem?_append_left (by rw [h.1]; exact hlt), ← List.getD_eq_getElem?_getD]
  · rename_i hge
    have e : i = xs.length := by omega
    subst e
    simp [List.getD_eq_getElem?_getD, ← h.1, hx]

theorem leavesT_out (h : RS B N φ fp S ts m a w) {Q : List AV → Prop} : ∀ (xs : List AV) (vs : List Value) (acc : List AV) (va : List Value), RdL (RV w S φ) xs vs → RdL (fun x v => Rd w (Now w) x v ∧ leaf x) acc.reverse va →
    sLeavesT m Q acc xs → ∃ ys, Q ys ∧ RdL (fun x v => Rd w (Now w) x v ∧ leaf x) ys (va ++ vs)
  | [], vs, acc, va, hx, ha, hk => by
    have : vs = [] := List.eq_nil_of_length_eq_zero hx.1
    subst this
    exact ⟨_, hk, by simpa using ha⟩
  | x :: xs, vs, acc, va, hx, ha, hk => by
    cases vs with
    | nil => have := hx.1; simp at this
    | cons v vs =>
      have hx0 := hx.2 0 (by simp)
      obtain ⟨y, hk, h1, h2, _⟩ := leafT_out h (show RV w S φ x v from hx0) hk
      obtain ⟨ys, g1, g2⟩ := leavesT_out h xs vs (y :: acc) (va ++ [v]) ⟨by simpa using hx.1, fun i hi => by have := hx.2 (i + 1) (by simpa using hi); exact this⟩ (by
        rw [List.reverse_cons]; exact ha.snoc ⟨h1, h2⟩) hk
      exact ⟨ys, g1, by simpa using g2⟩

theorem tree_out (h : RS B N φ fp S ts m a w) {x : AV} {v : Value} (hx : RV w S φ x v) {k : AV → Prop} (hk : sTree m x k) : ∃ y, k y ∧ Rd w (Now w) y v := by
  unfold sTree at hk
  split at hk
  · rename_i xs
    obtain ⟨cs, rfl, h1, h2, h3⟩ := rv_agg hx
    obtain ⟨ys, g1, g2⟩ := leavesT_out h xs cs.toList [] [] ⟨by simpa using h1, h3⟩ ⟨rfl, fun i hi => absurd hi (Nat.not_lt_zero _)⟩ hk
    refine ⟨_, g1, .agg ys cs (by simpa using g2.1) (fun i hi => (g2.2 i hi).2) fun i hi => (g2.2 i hi).1⟩
  · exact ⟨_, hk, .undef _⟩
  · exact ⟨_, hk, .undef _⟩
  · obtain ⟨y, h1, h2, _⟩ := leafT_out h hx hk
    exact ⟨y, h1, h2⟩

theorem trees_out (h : RS B N φ fp S ts m a w) {Q : List AV → Prop} : ∀ (xs : List AV) (vs : List Value) (acc : List AV) (va : List Value), RdL (RV w S φ) xs vs → RdL (Rd w (Now w)) acc.reverse va →
    sTrees m Q acc xs → ∃ ys, Q ys ∧ RdL (Rd w (Now w)) ys (va ++ vs)
  | [], vs, acc, va, hx, ha, hk => by
    have : vs = [] := List.eq_nil_of_length_eq_zero hx.1
    subst this
    exact ⟨_, hk, by simpa using ha⟩
  | x :: xs, vs, acc, va, hx, ha, hk => by
    cases vs with
    | nil => have := hx.1; simp at this
    | cons v vs =>
      have hx0 := hx.2 0 (by simp)
      obtain ⟨y, hk, h1⟩ := tree_out h (show RV w S φ x v from hx0) hk
      obtain ⟨ys, g1, g2⟩ := trees_out h xs vs (y :: acc) (va ++ [v]) ⟨by simpa using hx.1, fun i hi => by have := hx.2 (i + 1) (by simpa using hi); exact this⟩ (by
        rw [List.reverse_cons]; exact ha.snoc h1) hk
      exact ⟨ys, g1, by simpa using g2⟩

/- without labels the trees read over S too -/
theorem leaves_S {Q : List AV → Prop} : ∀ (xs acc : List AV), (∀ i (hi : i < xs.length), labs xs[i] = []) → sLeavesT m Q acc xs → Q (acc.reverse ++ xs)
  | [], acc, _, hk => by simpa [sLeavesT] using hk
  | x :: xs, acc, hl, hk => by
    have h0 : labs x = [] := hl 0 (by simp)
    have : sLeavesT m Q (x :: acc) xs := by
      simp only [sLeavesT] at hk
      unfold sLeafT at hk
      split at hk <;> first | exact hk | (simp [labs] at h0; done) | exact hk.elim
    have := leaves_S xs (x :: acc) (fun i hi => by have := hl (i + 1) (by simpa using hi); exact this) this
    simpa using this
theorem trees_S {Q : List AV → Prop} : ∀ (xs acc : List AV), noLabs xs → sTrees m Q acc xs → Q (acc.reverse ++ xs)
  | [], acc, _, hk => by simpa [sTrees] using hk
  | x :: xs, acc, hl, hk => by
    have h0 : labs x = [] := hl.1.1
    have h0' : isClo x = false := hl.1.2
    have : sTrees m Q (x :: acc) xs := by
      simp only [sTrees] at hk
      unfold sTree at hk
      split at hk
      · rename_i zs
        have := leaves_S zs [] (labs_nil_get (by simpa [labs] using h0)) hk
        simpa using this
      · simp [labs] at h0
      · cases h0'
      · unfold sLeafT at hk
        split at hk <;> first | exact hk | (simp [labs] at h0; done) | exact hk.elim
    have := trees_S xs (x :: acc) hl.2 this
    simpa using this

/-- Nothing that was there has changed: the state stays. -/
theorem RS.grown (h : RS B N φ fp S ts m a w) {w' : World} (hg : Grown w w') : RS B N φ fp S ts m a w' := by
  have hs : ∀ l b, b ∈ fp l → w'.heap[b]? = w.heap[b]? := fun l b hb => hg.same b (h.fpB l b hb).1
  have hS : ∀ b, S b → w'.heap[b]? = w.heap[b]? := fun b hb => hg.same b (h.sB b hb).1
  have hz : Sized φ w w' := fun l b sh ver cs e hl hb => ⟨cs, e, (hs l b (h.at_mem hl)).trans hb, rfl⟩
  exact { h with
    tm := fun t => (h.tm t).mono hS (fun _ h => h) hz fun l ver _ => LS.le_refl _ _
    mSome := fun l k hk => (h.mSome l k hk).mono hS (fun _ h => h) hz (hs l) rfl fun _ _ _ _ _ _ => LS.le_refl _ _
    fpB := fun l b hb => ⟨Nat.lt_of_lt_of_le (h.fpB l b hb).1 hg.size, (h.fpB l b hb).2⟩
    sB := fun b hb => ⟨Nat.lt_of_lt_of_le (h.sB b hb).1 hg.size, (h.sB b hb).2⟩
    base := fun b hb hio => (hg.same b (Nat.lt_of_lt_of_le hb h.size)).trans (h.base b hb hio)
    out := h.out.trans hg.out
    szs := h.szs.trans (Szs.of_same hg.same)
    kon := h.kon.mono hS fun _ h => h
    size := Nat.le_trans h.size hg.size }

/-- Blocks held for good from here on. -/
theorem RS.hold (h : RS B N φ fp S ts m a w) (T : Nat → Prop) (hT : ∀ b, T b → b < w.heap.size ∧ B.w0.heap.size ≤ b ∧ ∀ l, b ∉ fp l) : RS B N φ fp (fun b => S b ∨ T b) ts m a w := by
  have hz : Sized φ w w := fun l b sh ver cs e _ hb => ⟨cs, e, hb, rfl⟩
  exact { h with
    tm := fun t => (h.tm t).mono (fun _ _ => rfl) (fun _ h => .inl h) hz fun l ver _ => LS.le_refl _ _
    mSome := fun l k hk => (h.mSome l k hk).mono (fun _ _ => rfl) (fun _ h => .inl h) hz (fun _ _ => rfl) rfl fun _ _ _ _ _ _ => LS.le_refl _ _
    notS := fun l b hb hs => hs.elim (h.notS l b hb) fun ht => (hT b ht).2.2 l hb
    sB := fun b hb => hb.elim (h.sB b) fun ht => ⟨(hT b ht).1, .inl (hT b ht).2.1⟩
    kon := h.kon.mono (fun _ _ => rfl) fun _ h => .inl h
    }


/-- What laying labels over an owned value keeps. -/
structure MatOk (B : Base) (N : Nat) (φ φ' : Nat → LS) (fp fp' : Nat → List Nat) (S : Nat → Prop) (ts : Env) (m m' : Mem) (a : Act) (w : World) (fs : List Nat) : Prop where
  rs : RS B N φ' fp' S ts m' a w
  fps : ∀ l b, b ∈ fp' l → b ∈ fp l ∨ b ∈ fs
  rv : ∀ z u, RV w S φ z u → (∀ l ver, (l, ver) ∈ labs z → known m l ver) → RV w S φ' z u
  kn : ∀ l ver, known m l ver → known m' l ver

theorem MatOk.refl (h : RS B N φ fp S ts m a w) (fs : List Nat) : MatOk B N φ φ fp fp S ts m m a w fs := ⟨h, fun _ _ h => .inl h, fun _ _ h _ => h, fun _ _ h => h⟩

theorem matL_out (h : RS B N φ fp S ts m a w) {x : AV} {v : Value} {fs : List Nat} (hx : Own w (fun _ => False) x v fs) (hlf : leaf x) (hnd : fs.Nodup) (hfr : ∀ b, b ∈ fs → B.w0.heap.size ≤ b ∧ ¬ S b ∧ ∀ l, b ∉ fp l)
    (l : Nat) {k : AV → Mem → Prop} (hk : sMatL l x m k) :
    ∃ φ' fp' y m', MatOk B N φ φ' fp fp' S ts m m' a w fs ∧ k y m' ∧ leaf y ∧ RV w S φ' y v ∧ ∀ l ver, (l, ver) ∈ labs y → known m' l ver := by
  have other : (∀ sh xs, x ≠ .arr sh xs) → k x m → ∃ φ' fp' y m', MatOk B N φ φ' fp fp' S ts m m' a w fs ∧ k y m' ∧ leaf y ∧ RV w S φ' y v ∧ ∀ l ver, (l, ver) ∈ labs y → known m' l ver := by
    intro hna hk
    have hrd : Rd w (fun _ => False) x v := by
      cases hx with
      | rd _ _ h => exact h
      | arr => exact absurd rfl (hna _ _)
      | agg => exact hlf.elim
      | tup => exact hlf.elim
    exact ⟨φ, fp, x, m, MatOk.refl h fs, hk, hlf, .rd _ _ (hrd.mono (fun _ _ => rfl) fun _ h => h.elim), fun l ver hl => by rw [labs_rd hrd] at hl; cases hl⟩
  cases x with
  | arr sh xs =>
    have hres : ∀ (x' : LS) (fs' : List Nat), (∀ b, b ∈ fs' → b ∈ fs) → (∀ ver, known m l ver → LS.le x' (φ l) ver) → fs'.Nodup →
        BR w S (upd φ l x') l fs' (.row (newVer m l) sh true xs) → RV w S (upd φ l x') (.ref l (newVer m l) 0 xs.length) v →
        ∃ φ' fp' y m', MatOk B N φ φ' fp fp' S ts m m' a w fs ∧ k y m' ∧ leaf y ∧ RV w S φ' y v ∧ ∀ l ver, (l, ver) ∈ labs y → known m' l ver := by
      intro x' fs' hsub hle hnd' hbr hrv
      have hRS := h.next l x' fs' S (.row (newVer m l) sh true xs) (Nat.le_refl _) (SameOut.refl _) (Szs.refl _) (fun _ _ _ => rfl) (fun b hb => ⟨hb, rfl⟩) (fun b h1 h2 => absurd h1 h2) (fun l b sh ver cs e _ hb => ⟨cs, e, hb, rfl⟩) (fun _ _ _ _ => rfl)
        hle (fun ver hv => Nat.le_of_lt (known_lt hv)) hbr (fun _ _ hx => by cases hx) hnd' (fun b hb => ⟨(hfr b (hsub b hb)).2.1, fun l' _ => (hfr b (hsub b hb)).2.2 l', hx.lt b (hsub b hb), .inl (hfr b (hsub b hb)).1⟩)
      have hkn : ∀ l' ver, known m l' ver → known ((l, .row (newVer m l) sh true xs) :: m) l' ver := by
        intro l' ver hkk
        by_cases e : l = l'
        · subst e; exact ⟨.row (newVer m l) sh true xs, by simp [lookB_cons], Nat.le_of_lt (known_lt hkk)⟩
        · obtain ⟨k', h1, h2⟩ := hkk
          exact ⟨k', by simp [lookB_cons, e, h1], h2⟩
      refine ⟨_, _, .ref l (newVer m l) 0 xs.length, _, ⟨hRS, ?_, ?_, hkn⟩, hk, trivial, hrv, ?_⟩
      · intro l' b hb
        by_cases e : l' = l
        · subst e; rw [upd_same] at hb; exact .inr (hsub b hb)
        · rw [upd_other _ _ _ _ e] at hb; exact .inl hb
      · intro z u hz hl
        refine hz.mono (fun _ _ => rfl) (fun _ h => h) (fun l b sh ver cs e _ hb => ⟨cs, e, hb, rfl⟩) fun l' ver hl' => ?_
        by_cases e : l' = l
        · subst e; rw [upd_same]; exact hle ver (hl _ ver hl')
        · rw [upd_other _ _ _ _ e]; exact LS.le_refl _ _
      · intro l' ver hl
        simp only [labs, List.mem_singleton, Prod.mk.injEq] at hl
        obtain ⟨rfl, rfl⟩ := hl
        exact ⟨_, by simp [lookB_cons]; rfl, Nat.le_refl _⟩
    cases hx with
    | rd _ _ hrd =>
      cases hrd with
      | nil _ ad =>
        refine hres (.nil (newVer m l)) [] (by simp) (fun ver hv => ⟨fun _ _ h => (by cases h), fun hh => ?_⟩) (by simp) (.inl ⟨upd_same _ _ _, rfl, rfl⟩) ?_
        · injection hh with hh; exact absurd (known_lt hv) (by omega)
        · refine .ref _ _ _ _ _ (fun b' sh' hb' => ?_) (fun _ => ⟨rfl, ad, rfl⟩) rfl
          rw [upd_same] at hb'; cases hb'
      | arr _ _ b off cap cs e fr hS => exact hS.elim
    | arr _ _ b cap cs e fss hb hc hl hm hf hs hv =>
      refine hres (.at b sh (newVer m l)) (b :: fss.flatten) (fun _ h => h) (fun ver hkk => LS.le_newer _ _ _ _ _ (known_lt hkk)) hnd (.inr ⟨b, cap, upd_same _ _ _, List.mem_cons_self .., by simp, .arr sh xs b cap cs e fss hb hc hl hm hf hs hv⟩) ?_
      refine .ref _ _ _ _ _ (fun b' sh' hb' => ?_) (fun hb' => ?_) rfl
      · rw [upd_same] at hb'; cases hb'
        exact ⟨_, cap, rfl, hl, .inr ⟨by simp, cs, e, hb, by rw [hc, Nat.zero_add]⟩⟩
      · rw [upd_same] at hb'; cases hb'
  | _ => exact other (fun _ _ e => by cases e) hk

theorem fss_cons {fss : List (List Nat)} {f : List Nat} (h : (f :: fss).flatten.Nodup) : f.Nodup ∧ fss.flatten.Nodup ∧ ∀ b, b ∈ f → b ∉ fss.flatten := by
  rw [List.flatten_cons] at h
  exact ⟨(List.nodup_append.1 h).1, (List.nodup_append.1 h).2.1, fun b h1 h2 => (List.nodup_append.1 h).2.2 b h1 b h2 rfl⟩

/-- One piece after another: 'one' lays labels over one of them. -/
theorem mats_gen {one : Nat → AV → Mem → (AV → Mem → Prop) → Prop} {ok : AV → Prop} {step : Nat}
    (hone : ∀ (φ : Nat → LS) (fp : Nat → List Nat) (m : Mem), RS B N φ fp S ts m a w → ∀ (x : AV) (v : Value) (fs : List Nat), Own w (fun _ => False) x v fs → ok x → fs.Nodup → (∀ b, b ∈ fs → B.w0.heap.size ≤ b ∧ ¬ S b ∧ ∀ l, b ∉ fp l) →
      ∀ (l : Nat) (k : AV → Mem → Prop), one l x m k → ∃ φ' fp' y m', MatOk B N φ φ' fp fp' S ts m m' a w fs ∧ k y m' ∧ ok y ∧ RV w S φ' y v ∧ ∀ l ver, (l, ver) ∈ labs y → known m' l ver)
    {Q : List AV → Mem → Prop} {many : Nat → List AV → Mem → List AV → Prop} (hnil : ∀ l acc m, many l acc m [] → Q acc.reverse m) (hcons : ∀ l acc m x r, many l acc m (x :: r) → one l x m fun y m' => many (l + step) (y :: acc) m' r) :
    ∀ (xs : List AV) (vs : List Value) (fss : List (List Nat)) (l : Nat) (acc : List AV) (va : List Value) (φ : Nat → LS) (fp : Nat → List Nat) (m : Mem), RS B N φ fp S ts m a w →
      vs.length = xs.length → fss.length = xs.length → (∀ i (h : i < xs.length), Own w (fun _ => False) xs[i] (vs.getD i Go.undef) (fss.getD i [])) → (∀ i (h : i < xs.length), ok xs[i]) →
      fss.flatten.Nodup → (∀ b, b ∈ fss.flatten → B.w0.heap.size ≤ b ∧ ¬ S b ∧ ∀ l, b ∉ fp l) →
      RdL (fun x v => ok x ∧ RV w S φ x v ∧ ∀ l ver, (l, ver) ∈ labs x → known m l ver) acc.reverse va → many l acc m xs →
      ∃ φ' fp' m' ys, RS B N φ' fp' S ts m' a w ∧ (∀ l b, b ∈ fp' l → b ∈ fp l ∨ b ∈ fss.flatten) ∧ (∀ z u, RV w S φ z u → (∀ l ver, (l, ver) ∈ labs z → known m l ver) → RV w S φ' z u) ∧ (∀ l ver, known m l ver → known m' l ver) ∧
        Q ys m' ∧ RdL (fun x v => ok x ∧ RV w S φ' x v ∧ ∀ l ver, (l, ver) ∈ labs x → known m' l ver) ys (va ++ vs)
  | [], vs, fss, l, acc, va, φ, fp, m, h, hv, _, _, _, _, _, ha, hk => by
    have : vs = [] := List.eq_nil_of_length_eq_zero hv
    subst this
    exact ⟨φ, fp, m, _, h, fun _ _ h => .inl h, fun _ _ h _ => h, fun _ _ h => h, hnil l acc m hk, by simpa using ha⟩
  | x :: xs, vs, fss, l, acc, va, φ, fp, m, h, hv, hf, ho, hok, hnd, hfr, ha, hk => by
    cases vs with
    | nil => simp at hv
    | cons v vs =>
      cases fss with
      | nil => simp at hf
      | cons f fss =>
        obtain ⟨n1, n2, n3⟩ := fss_cons hnd
        have ho0 := ho 0 (by simp)
        obtain ⟨φ1, fp1, y, m1, hm, hk1, hy1, hy2, hy3⟩ := hone φ fp m h x v f ho0 (hok 0 (by simp)) n1 (fun b hb => hfr b (by simp [hb])) l _ (hcons l acc m x xs hk)
        have ha1 : RdL (fun x v => ok x ∧ RV w S φ1 x v ∧ ∀ l ver, (l, ver) ∈ labs x → known m1 l ver) (y :: acc).reverse (va ++ [v]) := by
          rw [List.reverse_cons]
          refine RdL.snoc ⟨ha.1, fun i hi => ?_⟩ ⟨hy1, hy2, hy3⟩
          obtain ⟨q1, q2, q3⟩ := ha.2 i hi
          exact ⟨q1, hm.rv _ _ q2 q3, fun l ver hl => hm.kn l ver (q3 l ver hl)⟩
        obtain ⟨φ2, fp2, m2, ys, g1, g2, g3, g4, g5, g6⟩ := mats_gen hone hnil hcons xs vs fss (l + step) (y :: acc) (va ++ [v]) φ1 fp1 m1 hm.rs (by simpa using hv) (by simpa using hf)
          (fun i hi => by have := ho (i + 1) (by simpa using hi); exact this) (fun i hi => by have := hok (i + 1) (by simpa using hi); exact this) n2
          (fun b hb => by
            obtain ⟨q1, q2, q3⟩ := hfr b (by simp only [List.flatten_cons, List.mem_append]; exact .inr hb)
            refine ⟨q1, q2, fun l hl => ?_⟩
            rcases hm.fps l b hl with hh | hh
            · exact q3 l hh
            · exact n3 b hh hb) ha1 hk1
        refine ⟨φ2, fp2, m2, ys, g1, fun l b hb => ?_, fun z u hz hl => g3 z u (hm.rv z u hz hl) fun l ver h => hm.kn l ver (hl l ver h), fun l ver h => g4 l ver (hm.kn l ver h), g5, by simpa using g6⟩
        rcases g2 l b hb with hh | hh
        · rcases hm.fps l b hh with h3 | h3
          · exact .inl h3
          · exact .inr (by simp [h3])
        · exact .inr (by simp only [List.flatten_cons, List.mem_append]; exact .inr hh)

theorem own_agg {S : Nat → Prop} {xs : List AV} {v : Value} {fs : List Nat} (h : Own w S (.agg xs) v fs) : ∃ (cs : Array Value) (fss : List (List Nat)), v = .agg cs ∧ fs = fss.flatten ∧ cs.size = xs.length ∧ (∀ i (h : i < xs.length), leaf xs[i]) ∧ fss.length = xs.length ∧
    ∀ i (h : i < xs.length), Own w S xs[i] (cs.toList.getD i Go.undef) (fss.getD i []) := by
  cases h with
  | rd _ _ h =>
    obtain ⟨cs, rfl, h1, h2, h3⟩ := rd_agg h
    refine ⟨cs, List.replicate xs.length [], rfl, (List.flatten_eq_nil_iff.2 fun l hl => (List.mem_replicate.1 hl).2).symm, h1, h2, by simp, fun i hi => ?_⟩
    rw [show (List.replicate xs.length ([] : List Nat)).getD i [] = [] by simp [List.getD_eq_getElem?_getD, hi]]
    exact .rd _ _ (h3 i hi)
  | agg _ cs fss h1 h2 h3 h4 => exact ⟨cs, fss, rfl, rfl, h1, h2, h3, h4⟩
theorem own_tup {S : Nat → Prop} {xs : List AV} {v : Value} {fs : List Nat} (h : Own w S (.tup xs) v fs) : ∃ (cs : Array Value) (fss : List (List Nat)), v = .tuple cs ∧ fs = fss.flatten ∧ cs.size = xs.length ∧ fss.length = xs.length ∧
    ∀ i (h : i < xs.length), Own w S xs[i] (cs.toList.getD i Go.undef) (fss.getD i []) := by
  cases h with
  | rd _ _ h =>
    cases h with
    | tup _ cs h1 h3 =>
    refine ⟨cs, List.replicate xs.length [], rfl, (List.flatten_eq_nil_iff.2 fun l hl => (List.mem_replicate.1 hl).2).symm, h1, by simp, fun i hi => ?_⟩
    rw [show (List.replicate xs.length ([] : List Nat)).getD i [] = [] by simp [List.getD_eq_getElem?_getD, hi]]
    exact .rd _ _ (h3 i hi)
  | tup _ cs fss h1 h3 h4 => exact ⟨cs, fss, rfl, rfl, h1, h3, h4⟩

theorem matA_out (h : RS B N φ fp S ts m a w) {x : AV} {v : Value} {fs : List Nat} (hx : Own w (fun _ => False) x v fs) (hnd : fs.Nodup) (hfr : ∀ b, b ∈ fs → B.w0.heap.size ≤ b ∧ ¬ S b ∧ ∀ l, b ∉ fp l)
    (l : Nat) {k : AV → Mem → Prop} (hk : sMatA l x m k) (hnt : ∀ xs, x ≠ .tup xs) :
    ∃ φ' fp' y m', MatOk B N φ φ' fp fp' S ts m m' a w fs ∧ k y m' ∧ RV w S φ' y v ∧ ∀ l ver, (l, ver) ∈ labs y → known m' l ver := by
  have fin : leaf x → sMatL l x m k → ∃ φ' fp' y m', MatOk B N φ φ' fp fp' S ts m m' a w fs ∧ k y m' ∧ RV w S φ' y v ∧ ∀ l ver, (l, ver) ∈ labs y → known m' l ver := by
    intro hlf hk
    obtain ⟨φ', fp', y, m', g1, g2, _, g3, g4⟩ := matL_out h hx hlf hnd hfr l hk
    exact ⟨φ', fp', y, m', g1, g2, g3, g4⟩
  cases x with
  | agg xs =>
    obtain ⟨cs, fss, rfl, rfl, h1, h2, h3, h4⟩ := own_agg hx
    obtain ⟨φ', fp', m', ys, g1, g2, g3, g4, g5, g6⟩ := mats_gen (one := sMatL) (ok := leaf) (step := 1) (Q := fun ys m' => k (.agg ys) m') (many := fun l acc m xs => sMats (fun ys m' => k (.agg ys) m') l acc m xs)
      (fun φ fp m hRS x v fs ho hlf hn hf l k hk => matL_out hRS ho hlf hn hf l hk) (fun _ _ _ h => h) (fun _ _ _ _ _ h => h) xs cs.toList fss l [] [] φ fp m h (by simpa using h1) h3 h4 h2 hnd hfr ⟨rfl, fun i hi => absurd hi (Nat.not_lt_zero _)⟩ hk
    refine ⟨φ', fp', .agg ys, m', ⟨g1, g2, g3, g4⟩, g5, .agg ys cs (by simpa using g6.1) (fun i hi => (g6.2 i hi).1) (fun i hi => (g6.2 i hi).2.1), ?_⟩
    intro l ver hl
    obtain ⟨i, hi, hl'⟩ := of_mem_labsL (by simpa [labs] using hl)
    exact (g6.2 i hi).2.2 l ver hl'
  | tup xs => exact absurd rfl (hnt xs)
  | undef =>
    cases hx with
    | rd _ _ hr => exact ⟨φ, fp, .undef, m, MatOk.refl h _, hk, .rd _ _ (.undef _), fun _ _ hl => by cases hl⟩
  | _ => exact fin trivial hk

theorem mat_out (h : RS B N φ fp S ts m a w) {x : AV} {v : Value} {fs : List Nat} (hx : Own w (fun _ => False) x v fs) (hnd : fs.Nodup) (hfr : ∀ b, b ∈ fs → B.w0.heap.size ≤ b ∧ ¬ S b ∧ ∀ l, b ∉ fp l)
    (l : Nat) {k : AV → Mem → Prop} (hk : sMat l x m k) :
    ∃ φ' fp' y m', MatOk B N φ φ' fp fp' S ts m m' a w fs ∧ k y m' ∧ RV w S φ' y v ∧ ∀ l ver, (l, ver) ∈ labs y → known m' l ver := by
  cases x with
  | tup xs =>
    obtain ⟨cs, fss, rfl, rfl, h1, h3, h4⟩ := own_tup hx
    simp only [sMat] at hk
    obtain ⟨φ', fp', m', ys, g1, g2, g3, g4, g5, g6⟩ := mats_gen (one := sMatA) (ok := fun _ => True) (step := 16) (Q := fun ys m' => k (.tup ys) m') (many := fun l acc m xs => sMatTs (fun ys m' => k (.tup ys) m') l acc m xs)
      (fun φ fp m hRS x v fs ho _ hn hf l k hk => by
        by_cases hnt : ∃ zs, x = .tup zs
        · obtain ⟨zs, rfl⟩ := hnt
          exact hk.elim
        · obtain ⟨φ', fp', y, m', q1, q2, q3, q4⟩ := matA_out hRS ho hn hf l hk fun zs e => hnt ⟨zs, e⟩
          exact ⟨φ', fp', y, m', q1, q2, trivial, q3, q4⟩) (fun _ _ _ h => h) (fun _ _ _ _ _ h => h) xs cs.toList fss l [] [] φ fp m h (by simpa using h1) h3 h4 (fun _ _ => trivial) hnd hfr ⟨rfl, fun i hi => absurd hi (Nat.not_lt_zero _)⟩ hk
    refine ⟨φ', fp', .tup ys, m', ⟨g1, g2, g3, g4⟩, g5, .tup ys cs (by simpa using g6.1) (fun i hi => (g6.2 i hi).2.1), ?_⟩
    intro l ver hl
    obtain ⟨i, hi, hl'⟩ := of_mem_labsL (by simpa [labs] using hl)
    exact (g6.2 i hi).2.2 l ver hl'
  | _ => exact matA_out h hx hnd hfr l hk (fun _ e => by cases e)

end
end Go.Vc
