/-
  Contracts whose results are told up to this: a nil slice reads as the empty list.
-/
import Derived.Test.YtlelhmbhhnokoaaDoorVcIo
set_option linter.unusedVariables false
set_option linter.unusedSimpArgs false
set_option linter.unnecessarySimpa false
namespace Go.Vc

def nl (x y : AV) : Prop := match x, y with
  | .val (.slice none 0 0), .arr _ ys => ys = []
  | .e0, .arr _ ys => ys = []
  | x, y => x = y
theorem nl_nil (sh : Sh) (ys : List AV) : nl (.val (.slice none 0 0)) (.arr sh ys) = (ys = []) := rfl
theorem nl_e0 (sh : Sh) (ys : List AV) : nl .e0 (.arr sh ys) = (ys = []) := rfl
theorem nl_int (k : IntKind) (n : Int) (y : AV) : nl (.val (.int k n)) y = (.val (.int k n) = y) := by cases y <;> rfl
theorem nl_bool (b : Bool) (y : AV) : nl (.val (.bool b)) y = (.val (.bool b) = y) := by cases y <;> rfl
theorem nl_string (s : ByteArray) (y : AV) : nl (.val (.string s)) y = (.val (.string s) = y) := by cases y <;> rfl
theorem nl_arr (sh : Sh) (xs : List AV) (y : AV) : nl (.arr sh xs) y = (.arr sh xs = y) := by cases y <;> rfl
def nlL : List AV → List AV → Prop
  | [], ys => [] = ys
  | x :: xs, ys => match ys with | y :: ys => nl x y ∧ nlL xs ys | [] => False
theorem nlL_nil : nlL [] [] = True := by simp [nlL]
theorem nlL_cons (x y : AV) (xs ys : List AV) : nlL (x :: xs) (y :: ys) = (nl x y ∧ nlL xs ys) := rfl
def nlA (x y : AV) : Prop := match x, y with
  | .agg xs, .agg ys => nlL xs ys
  | x, y => nl x y
theorem nlA_agg (xs ys : List AV) : nlA (.agg xs) (.agg ys) = nlL xs ys := rfl
theorem nlA_nil (sh : Sh) (ys : List AV) : nlA (.val (.slice none 0 0)) (.arr sh ys) = (ys = []) := rfl
theorem nlA_e0 (sh : Sh) (ys : List AV) : nlA .e0 (.arr sh ys) = (ys = []) := rfl
theorem nlA_int (k : IntKind) (n : Int) (y : AV) : nlA (.val (.int k n)) y = (.val (.int k n) = y) := by cases y <;> rfl
theorem nlA_bool (b : Bool) (y : AV) : nlA (.val (.bool b)) y = (.val (.bool b) = y) := by cases y <;> rfl
theorem nlA_string (s : ByteArray) (y : AV) : nlA (.val (.string s)) y = (.val (.string s) = y) := by cases y <;> rfl
theorem nlA_arr (sh : Sh) (xs : List AV) (y : AV) : nlA (.arr sh xs) y = (.arr sh xs = y) := by cases y <;> rfl
def nlAs : List AV → List AV → Prop
  | [], ys => [] = ys
  | x :: xs, ys => match ys with | y :: ys => nlA x y ∧ nlAs xs ys | [] => False
theorem nlAs_nil : nlAs [] [] = True := by simp [nlAs]
theorem nlAs_cons (x y : AV) (xs ys : List AV) : nlAs (x :: xs) (y :: ys) = (nlA x y ∧ nlAs xs ys) := rfl
def nlT (x y : AV) : Prop := match x, y with
  | .tup xs, .tup ys => nlAs xs ys
  | x, y => nlA x y
theorem nlT_tup (xs ys : List AV) : nlT (.tup xs) (.tup ys) = nlAs xs ys := rfl
theorem nlT_agg (xs ys : List AV) : nlT (.agg xs) (.agg ys) = nlL xs ys := rfl
theorem nlT_nil (sh : Sh) (ys : List AV) : nlT (.val (.slice none 0 0)) (.arr sh ys) = (ys = []) := rfl
theorem nlT_e0 (sh : Sh) (ys : List AV) : nlT .e0 (.arr sh ys) = (ys = []) := rfl
theorem nlT_int (k : IntKind) (n : Int) (y : AV) : nlT (.val (.int k n)) y = (.val (.int k n) = y) := by cases y <;> rfl
theorem nlT_bool (b : Bool) (y : AV) : nlT (.val (.bool b)) y = (.val (.bool b) = y) := by cases y <;> rfl
theorem nlT_string (s : ByteArray) (y : AV) : nlT (.val (.string s)) y = (.val (.string s) = y) := by cases y <;> rfl
theorem nlT_arr (sh : Sh) (xs : List AV) (y : AV) : nlT (.arr sh xs) y = (.arr sh xs = y) := by cases y <;> rfl

section
variable {w : World} {S : Nat → Prop}

theorem nl_out {x y : AV} {v : Value} {fs : List Nat} (h : Own w S x v fs) (hn : nl x y) : Own w S y v fs ∧ (leaf x → leaf y) := by
  unfold nl at hn
  split at hn
  · subst hn
    cases h with
    | rd _ _ h => cases h with | val _ _ => exact ⟨.rd _ _ (.nil _ _), fun _ => trivial⟩
  · subst hn
    cases h with
    | rd _ _ h => cases h with | e0 a => exact ⟨.rd _ _ (.nil _ _), fun _ => trivial⟩
  · subst hn; exact ⟨h, id⟩

theorem nlL_out : ∀ (xs ys : List AV), nlL xs ys → xs.length = ys.length ∧ ∀ i (h : i < xs.length) (h' : i < ys.length), nl xs[i] ys[i]
  | [], ys, h => by
    have h : [] = ys := h
    subst h; exact ⟨rfl, fun i h => absurd h (Nat.not_lt_zero _)⟩
  | x :: xs, [], h => h.elim
  | x :: xs, y :: ys, h => by
    obtain ⟨h1, h2⟩ := nlL_out xs ys h.2
    refine ⟨by simp [h1], fun i hi hi' => ?_⟩
    cases i with
    | zero => exact h.1
    | succ i => exact h2 i (by simpa using hi) (by simpa using hi')
theorem nlAs_out : ∀ (xs ys : List AV), nlAs xs ys → xs.length = ys.length ∧ ∀ i (h : i < xs.length) (h' : i < ys.length), nlA xs[i] ys[i]
  | [], ys, h => by
    have h : [] = ys := h
    subst h; exact ⟨rfl, fun i h => absurd h (Nat.not_lt_zero _)⟩
  | x :: xs, [], h => h.elim
  | x :: xs, y :: ys, h => by
    obtain ⟨h1, h2⟩ := nlAs_out xs ys h.2
    refine ⟨by simp [h1], fun i hi hi' => ?_⟩
    cases i with
    | zero => exact h.1
    | succ i => exact h2 i (by simpa using hi) (by simpa using hi')

theorem nlA_out {x y : AV} {v : Value} {fs : List Nat} (h : Own w S x v fs) (hn : nlA x y) : Own w S y v fs := by
  unfold nlA at hn
  split at hn
  · rename_i xs ys
    obtain ⟨cs, fss, rfl, rfl, h1, h2, h3, h4⟩ := own_agg h
    obtain ⟨g1, g2⟩ := nlL_out xs ys hn
    refine .agg ys cs fss (h1.trans g1) (fun i hi => ?_) (h3.trans g1) (fun i hi => ?_)
    · exact (nl_out (h4 i (by omega)) (g2 i (by omega) hi)).2 (h2 i (by omega))
    · exact (nl_out (h4 i (by omega)) (g2 i (by omega) hi)).1
  · exact (nl_out h hn).1

theorem nlT_out {x y : AV} {v : Value} {fs : List Nat} (h : Own w S x v fs) (hn : nlT x y) : Own w S y v fs := by
  unfold nlT at hn
  split at hn
  · rename_i xs ys
    obtain ⟨cs, fss, rfl, rfl, h1, h3, h4⟩ := own_tup h
    obtain ⟨g1, g2⟩ := nlAs_out xs ys hn
    exact .tup ys cs fss (h1.trans g1) (h3.trans g1) fun i hi => nlA_out (h4 i (by omega)) (g2 i (by omega) hi)
  · exact nlA_out h hn
end

theorem Fn.nil {P : Program} {f : FuncId} {args : List AV} {post : AV → Prop} (h : Fn P f args true (fun x => ∃ r, nlT x r ∧ post r)) : Fn P f args true post :=
  ⟨h.1, fun w S vs h1 hk h2 h3 => (h.2 w S vs h1 hk h2 h3).mono fun _ _ ⟨x, v, g1, ⟨r, g2, g3⟩, g4, g5⟩ => by
    refine ⟨r, v, g1, g3, g4, ?_⟩
    obtain ⟨fs, q1, q2⟩ := g5
    exact ⟨fs, nlT_out q1 g2, q2⟩⟩
theorem FnM.nil {P : Program} {f : FuncId} {io : List Blk} {args : List AV} {post : AV → List Blk → Prop} (h : FnM P f io args (fun x io' => ∃ r, nlT x r ∧ post r io')) : FnM P f io args post :=
  ⟨h.1, fun w φ fp S vs h1 h2 => (h.2 w φ fp S vs h1 h2).mono fun _ _ ⟨x, v, io', φ', fp', S', m', g1, ⟨r, g2, g3⟩, g4, g5, fs, q1, q2⟩ =>
    ⟨r, v, io', φ', fp', S', m', g1, g3, g4, g5, fs, nlT_out q1 g2, q2⟩⟩

/-- A contract with one answer, out of a body. -/
theorem Fn.of_vcN {P : Program} {f : FuncId} {fn : Func} {c : Code} {args : List AV} {r : AV} (N : Nat) (rs : List ResultVar) (hf : P.funcs[f]? = some fn) (hN : fn.ntmps = N) (hr : fn.results.toList = rs) (hn : (fn.name == "runtime.NumGoroutine") = false)
    (hb : fn.body = some c) (hok : codeOk N c = true) (ha : args.length ≤ N) (hv : vc P N c (argsE 0 args) [] (fin P rs (fun x => nlT x r))) : Fn P f args true (· = r) :=
  Fn.nil ((Fn.of_vc N rs hf hN hr hn hb hok ha hv).mono fun x hx => ⟨r, hx, rfl⟩)
theorem FnM.of_vcN {P : Program} {f : FuncId} {fn : Func} {c : Code} {io io1 : List Blk} {args : List AV} {r : AV} (N : Nat) (rs : List ResultVar) (hf : P.funcs[f]? = some fn) (hN : fn.ntmps = N) (hr : fn.results.toList = rs)
    (hn : (fn.name == "runtime.NumGoroutine") = false) (hb : fn.body = some c) (hok : codeOk N c = true) (ha : args.length ≤ N) (hv : vc P N c (argsE 0 args) (ioM 0 io) (finM P rs (io.map Blk.ver) (fun x io' => nlT x r ∧ io' = io1))) :
    FnM P f io args (fun x io' => x = r ∧ io' = io1) :=
  FnM.nil ((FnM.of_vc N rs hf hN hr hn hb hok ha hv).mono fun x io' hx => ⟨r, hx.1, rfl, hx.2⟩)
theorem ver_row (v : Nat) (sh : Sh) (d : Bool) (xs : List AV) : (Blk.row v sh d xs).ver = v := rfl
theorem ver_box (v : Nat) (xs : List AV) : (Blk.box v xs).ver = v := rfl
end Go.Vc
