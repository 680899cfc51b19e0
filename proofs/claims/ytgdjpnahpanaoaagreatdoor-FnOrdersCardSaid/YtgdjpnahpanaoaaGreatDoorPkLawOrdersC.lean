import Derived.StillTail
import Derived.ProofKit
import Derived.OpenShut
import Derived.ChangeOld
import Derived.Below
import Derived.Carry
import Derived.Deep.Slices
import Derived.Test.YtgdjpnahpanaoaaGreatDoorRows
import Derived.Test.YtgdjpnahpanaoaaGreatDoorCards
import Derived.Test.YtgdjpnahpanaoaaGreatDoorTie
import Derived.Lay
import Derived.LaidMore
import Derived.Stop.LaidErr
import Derived.Lib.LaidTab
import Derived.Shelf.Vars
import Derived.SevenTiedAt
import Derived.SizedLaws
import Derived.Test.YtgdjpnahpanaoaaGreatDoorPkLawOrdersB
set_option linter.unusedVariables false
set_option linter.unusedSimpArgs false
set_option linter.unnecessarySimpa false
namespace Go.Vc

def nl (x y : AV) : Prop := match x, y with
  | .val (.slice none 0 0), .arr _ ys => ys = []
  | .e0, .arr _ ys => ys = []
  | x, y => x = y
theorem nl_int (k : IntKind) (n : Int) (y : AV) : nl (.val (.int k n)) y = (.val (.int k n) = y) := by cases y <;> rfl
theorem nl_arr (sh : Sh) (xs : List AV) (y : AV) : nl (.arr sh xs) y = (.arr sh xs = y) := by cases y <;> rfl
def nlL : List AV → List AV → Prop
  | [], ys => [] = ys
  | x :: xs, ys => match ys with | y :: ys => nl x y ∧ nlL xs ys | [] => False
theorem nlL_nil : nlL [] [] = True := by simp [nlL]
theorem nlL_cons (x y : AV) (xs ys : List AV) : nlL (x :: xs) (y :: ys) = (nl x y ∧ nlL xs ys) := rfl
def nlA (x y : AV) : Prop := match x, y with
  | .agg xs, .agg ys => nlL xs ys
  | x, y => nl x y
theorem nlA_nil (sh : Sh) (ys : List AV) : nlA (.val (.slice none 0 0)) (.arr sh ys) = (ys = []) := rfl
theorem nlA_int (k : IntKind) (n : Int) (y : AV) : nlA (.val (.int k n)) y = (.val (.int k n) = y) := by cases y <;> rfl
theorem nlA_bool (b : Bool) (y : AV) : nlA (.val (.bool b)) y = (.val (.bool b) = y) := by cases y <;> rfl
theorem nlA_string (s : ByteArray) (y : AV) : nlA (.val (.string s)) y = (.val (.string s) = y) := by cases y <;> rfl
theorem nlA_arr (sh : Sh) (xs : List AV) (y : AV) : nlA (.arr sh xs) y = (.arr sh xs = y) := by cases y <;> rfl
def nlAs : List AV → List AV → Prop
  | [], ys => [] = ys
  | x :: xs, ys => match ys with | y :: ys => nlA x y ∧ nlAs xs ys | [] => False
theorem nlAs_nil : nlAs [] [] = True := by simp [nlAs]
theorem nlAs_cons (x y : AV) (xs ys : List AV) : nlAs (x :: xs) (y :: ys) = (nlA x y ∧ nlAs xs ys) := rfl
def nlT (x y : AV) : Prop := match x, y with
  | .tup xs, .tup ys => nlAs xs ys
  | x, y => nlA x y
theorem nlT_tup (xs ys : List AV) : nlT (.tup xs) (.tup ys) = nlAs xs ys := rfl
theorem nlT_agg (xs ys : List AV) : nlT (.agg xs) (.agg ys) = nlL xs ys := rfl
theorem nlT_nil (sh : Sh) (ys : List AV) : nlT (.val (.slice none 0 0)) (.arr sh ys) = (ys = []) := rfl
theorem nlT_int (k : IntKind) (n : Int) (y : AV) : nlT (.val (.int k n)) y = (.val (.int k n) = y) := by cases y <;> rfl
theorem nlT_bool (b : Bool) (y : AV) : nlT (.val (.bool b)) y = (.val (.bool b) = y) := by cases y <;> rfl
theorem nlT_string (s : ByteArray) (y : AV) : nlT (.val (.string s)) y = (.val (.string s) = y) := by cases y <;> rfl
theorem nlT_arr (sh : Sh) (xs : List AV) (y : AV) : nlT (.arr sh xs) y = (.arr sh xs = y) := by cases y <;> rfl

section
variable {w : World} {S : Nat → Prop}

theorem nl_out {x y : AV} {v : Value} {fs : List Nat} (h : Own w S x v fs) (hn : nl x y) : Own w S y v fs ∧ (leaf x → leaf y) := by
  unfold nl at hn
  split at hn
  · subst hn
    cases h with
    | rd _ _ h => cases h with | val _ _ => exact ⟨.rd _ _ (.nil _ _), fun _ => trivial⟩
  · subst hn
    cases h with
    | rd _ _ h => cases h with | e0 a => exact ⟨.rd _ _ (.nil _ _), fun _ => trivial⟩
  · subst hn; exact ⟨h, id⟩

theorem nlL_out : ∀ (xs ys : List AV), nlL xs ys → xs.length = ys.length ∧ ∀ i (h : i < xs.length) (h' : i < ys.length), nl xs[i] ys[i]
  | [], ys, h => by
    have h : [] = ys := h
    subst h; exact ⟨rfl, fun i h => absurd h (Nat.not_lt_zero _)⟩
  | x :: xs, [], h => h.elim
  | x :: xs, y :: ys, h => by
    obtain ⟨h1, h2⟩ := nlL_out xs ys h.2
    refine ⟨by simp [h1], fun i hi hi' => ?_⟩
    cases i with
    | zero => exact h.1
    | succ i => exact h2 i (by simpa using hi) (by simpa using hi')
theorem nlAs_out : ∀ (xs ys : List AV), nlAs xs ys → xs.length = ys.length ∧ ∀ i (h : i < xs.length) (h' : i < ys.length), nlA xs[i] ys[i]
  | [], ys, h => by
    have h : [] = ys := h
    subst h; exact ⟨rfl, fun i h => absurd h (Nat.not_lt_zero _)⟩
  | x :: xs, [], h => h.elim
  | x :: xs, y :: ys, h => by
    obtain ⟨h1, h2⟩ := nlAs_out xs ys h.2
    refine ⟨by simp [h1], fun i hi hi' => ?_⟩
    cases i with
    | zero => exact h.1
    | succ i => exact h2 i (by simpa using hi) (by simpa using hi')

theorem nlA_out {x y : AV} {v : Value} {fs : List Nat} (h : Own w S x v fs) (hn : nlA x y) : Own w S y v fs := by
  unfold nlA at hn
  split at hn
  · rename_i xs ys
    obtain ⟨cs, fss, rfl, rfl, h1, h2, h3, h4⟩ := own_agg h
    obtain ⟨g1, g2⟩ := nlL_out xs ys hn
    refine .agg ys cs fss (h1.trans g1) (fun i hi => ?_) (h3.trans g1) (fun i hi => ?_)
    · exact (nl_out (h4 i (by omega)) (g2 i (by omega) hi)).2 (h2 i (by omega))
    · exact (nl_out (h4 i (by omega)) (g2 i (by omega) hi)).1
  · exact (nl_out h hn).1

theorem nlT_out {x y : AV} {v : Value} {fs : List Nat} (h : Own w S x v fs) (hn : nlT x y) : Own w S y v fs := by
  unfold nlT at hn
  split at hn
  · rename_i xs ys
    obtain ⟨cs, fss, rfl, rfl, h1, h3, h4⟩ := own_tup h
    obtain ⟨g1, g2⟩ := nlAs_out xs ys hn
    exact .tup ys cs fss (h1.trans g1) (h3.trans g1) fun i hi => nlA_out (h4 i (by omega)) (g2 i (by omega) hi)
  · exact nlA_out h hn
end

theorem Fn.nil {P : Program} {f : FuncId} {args : List AV} {post : AV → Prop} (h : Fn P f args true (fun x => ∃ r, nlT x r ∧ post r)) : Fn P f args true post :=
  ⟨h.1, fun w S vs h1 hk h2 h3 => (h.2 w S vs h1 hk h2 h3).mono fun _ _ ⟨x, v, g1, ⟨r, g2, g3⟩, g4, g5⟩ => by
    refine ⟨r, v, g1, g3, g4, ?_⟩
    obtain ⟨fs, q1, q2⟩ := g5
    exact ⟨fs, nlT_out q1 g2, q2⟩⟩
theorem FnM.nil {P : Program} {f : FuncId} {io : List Blk} {args : List AV} {post : AV → List Blk → Prop} (h : FnM P f io args (fun x io' => ∃ r, nlT x r ∧ post r io')) : FnM P f io args post :=
  ⟨h.1, fun w φ fp S vs h1 h2 => (h.2 w φ fp S vs h1 h2).mono fun _ _ ⟨x, v, io', φ', fp', S', m', g1, ⟨r, g2, g3⟩, g4, g5, fs, q1, q2⟩ =>
    ⟨r, v, io', φ', fp', S', m', g1, g3, g4, g5, fs, nlT_out q1 g2, q2⟩⟩

theorem Fn.of_vcN {P : Program} {f : FuncId} {fn : Func} {c : Code} {args : List AV} {r : AV} (N : Nat) (rs : List ResultVar) (hf : P.funcs[f]? = some fn) (hN : fn.ntmps = N) (hr : fn.results.toList = rs) (hn : (fn.name == "runtime.NumGoroutine") = false)
    (hb : fn.body = some c) (hok : codeOk N c = true) (ha : args.length ≤ N) (hv : vc P N c (argsE 0 args) [] (fin P rs (fun x => nlT x r))) : Fn P f args true (· = r) :=
  Fn.nil ((Fn.of_vc N rs hf hN hr hn hb hok ha hv).mono fun x hx => ⟨r, hx, rfl⟩)
theorem FnM.of_vcN {P : Program} {f : FuncId} {fn : Func} {c : Code} {io io1 : List Blk} {args : List AV} {r : AV} (N : Nat) (rs : List ResultVar) (hf : P.funcs[f]? = some fn) (hN : fn.ntmps = N) (hr : fn.results.toList = rs)
    (hn : (fn.name == "runtime.NumGoroutine") = false) (hb : fn.body = some c) (hok : codeOk N c = true) (ha : args.length ≤ N) (hv : vc P N c (argsE 0 args) (ioM 0 io) (finM P rs (io.map Blk.ver) (fun x io' => nlT x r ∧ io' = io1))) :
    FnM P f io args (fun x io' => x = r ∧ io' = io1) :=
  FnM.nil ((FnM.of_vc N rs hf hN hr hn hb hok ha hv).mono fun x io' hx => ⟨r, hx.1, rfl, hx.2⟩)
theorem ver_row (v : Nat) (sh : Sh) (d : Bool) (xs : List AV) : (Blk.row v sh d xs).ver = v := rfl
theorem ver_box (v : Nat) (xs : List AV) : (Blk.box v xs).ver = v := rfl
end Go.Vc


set_option linter.unusedVariables false
set_option linter.unusedSimpArgs false
set_option linter.unnecessarySimpa false
namespace Go.Vc

def rl (l l' x : Nat) : Nat := if x = l then l' else if x = l' then l else x
theorem rl_rl (l l' x : Nat) : rl l l' (rl l l' x) = x := by
  unfold rl
  split
  · rename_i h; split
    · rename_i h2; omega
    · rw [if_pos rfl]; exact h.symm
  · split
    · rename_i h1 h2; rw [if_pos rfl]; exact h2.symm
    · rfl
theorem rl_inj {l l' x y : Nat} (h : rl l l' x = rl l l' y) : x = y := by rw [← rl_rl l l' x, h, rl_rl]
theorem rl_hi {l l' x : Nat} (h : l < ioL) (h' : l' < ioL) (hx : ioL ≤ x) : rl l l' x = x := by unfold rl; rw [if_neg (by omega), if_neg (by omega)]
theorem rl_lo {l l' x : Nat} (h : l < ioL) (h' : l' < ioL) (hx : x < ioL) : rl l l' x < ioL := by unfold rl; split <;> (try split) <;> omega
theorem rl_eq (l l' x : Nat) : rl l l' x = if x = l then l' else if x = l' then l else x := rfl

mutual
def rnA (l l' : Nat) : AV → AV
  | .ref k v i n => .ref (rl l l' k) v i n
  | .ptr k v i j => .ptr (rl l l' k) v i j
  | .agg xs => .agg (rnL l l' xs)
  | .tup xs => .tup (rnL l l' xs)
  | .clo f xs => .clo f (rnL l l' xs)
  | x => x
def rnL (l l' : Nat) : List AV → List AV
  | [] => []
  | x :: r => rnA l l' x :: rnL l l' r
end
theorem rnA_ref (l l' k v i n : Nat) : rnA l l' (.ref k v i n) = .ref (rl l l' k) v i n := by simp [rnA]
theorem rnA_ptr (l l' k v i j : Nat) : rnA l l' (.ptr k v i j) = .ptr (rl l l' k) v i j := by simp [rnA]
theorem rnA_agg (l l' : Nat) (xs : List AV) : rnA l l' (.agg xs) = .agg (rnL l l' xs) := by simp [rnA]
theorem rnA_tup (l l' : Nat) (xs : List AV) : rnA l l' (.tup xs) = .tup (rnL l l' xs) := by simp [rnA]
theorem rnA_clo (l l' : Nat) (f : FuncId) (xs : List AV) : rnA l l' (.clo f xs) = .clo f (rnL l l' xs) := by simp [rnA]
theorem rnA_undef (l l' : Nat) : rnA l l' .undef = .undef := by simp [rnA]
theorem rnA_val (l l' : Nat) (v : Value) : rnA l l' (.val v) = .val v := by simp [rnA]
theorem rnA_e0 (l l' : Nat) : rnA l l' .e0 = .e0 := by simp [rnA]
theorem rnA_arr (l l' : Nat) (sh : Sh) (xs : List AV) : rnA l l' (.arr sh xs) = .arr sh xs := by simp [rnA]
theorem rnA_eptr (l l' : Nat) (sh : Sh) (xs : List AV) (i j : Nat) : rnA l l' (.eptr sh xs i j) = .eptr sh xs i j := by simp [rnA]
theorem rnL_nil (l l' : Nat) : rnL l l' [] = [] := by simp [rnL]
theorem rnL_cons (l l' : Nat) (x : AV) (r : List AV) : rnL l l' (x :: r) = rnA l l' x :: rnL l l' r := by simp [rnL]
theorem rnL_length (l l' : Nat) : ∀ xs : List AV, (rnL l l' xs).length = xs.length
  | [] => rfl
  | x :: r => by rw [rnL_cons, List.length_cons, List.length_cons, rnL_length l l' r]
theorem rnL_get (l l' : Nat) : ∀ (xs : List AV) (i : Nat) (h : i < xs.length) (h' : i < (rnL l l' xs).length), (rnL l l' xs)[i] = rnA l l' xs[i]
  | x :: r, 0, _, _ => rfl
  | x :: r, i + 1, h, h' => by
    have := rnL_get l l' r i (by simpa using h) (by rw [rnL_length]; simpa using h)
    simpa [rnL] using this
theorem rnA_leaf {l l' : Nat} {x : AV} (h : leaf x) : leaf (rnA l l' x) := by
  cases x <;> first | exact h.elim | (simp [rnA]; trivial) | trivial

def rnB (l l' : Nat) : Blk → Blk
  | .box v xs => .box v (rnL l l' xs)
  | b => b
theorem rnB_box (l l' v : Nat) (xs : List AV) : rnB l l' (.box v xs) = .box v (rnL l l' xs) := rfl
theorem rnB_row (l l' v : Nat) (sh : Sh) (d : Bool) (xs : List AV) : rnB l l' (.row v sh d xs) = .row v sh d xs := rfl
theorem rnB_gone (l l' v : Nat) : rnB l l' (.gone v) = .gone v := rfl
theorem rnB_ver (l l' : Nat) (b : Blk) : (rnB l l' b).ver = b.ver := by cases b <;> rfl
def rnE (l l' : Nat) : Env → Env
  | [] => []
  | (t, x) :: r => (t, rnA l l' x) :: rnE l l' r
theorem rnE_cons (l l' t : Nat) (x : AV) (r : Env) : rnE l l' ((t, x) :: r) = (t, rnA l l' x) :: rnE l l' r := rfl
def rnM (l l' : Nat) : Mem → Mem
  | [] => []
  | (k, b) :: r => (rl l l' k, rnB l l' b) :: rnM l l' r
theorem rnM_nil (l l' : Nat) : rnM l l' [] = [] := rfl
theorem rnM_cons (l l' k : Nat) (b : Blk) (r : Mem) : rnM l l' ((k, b) :: r) = (rl l l' k, rnB l l' b) :: rnM l l' r := rfl

theorem look_rnE (l l' : Nat) : ∀ (ts : Env) (t : Nat), look (rnE l l' ts) t = rnA l l' (look ts t)
  | [], t => (rnA_undef l l').symm
  | (k, x) :: r, t => by
    rw [rnE_cons, look_cons, look_cons, look_rnE l l' r t]
    split <;> rfl
theorem lookB_rnM (l l' : Nat) : ∀ (m : Mem) (k : Nat), lookB (rnM l l' m) k = (lookB m (rl l l' k)).map (rnB l l')
  | [], k => rfl
  | (k0, b) :: r, k => by
    rw [rnM_cons, lookB_cons, lookB_cons, lookB_rnM l l' r k]
    by_cases h : rl l l' k0 = k
    · have : k0 = rl l l' k := by rw [← h, rl_rl]
      rw [if_pos h, if_pos this]; rfl
    · have : k0 ≠ rl l l' k := fun e => h (by rw [e, rl_rl])
      rw [if_neg h, if_neg this]

mutual
theorem labs_rnA (l l' : Nat) : ∀ (x : AV), labs (rnA l l' x) = (labs x).map fun p => (rl l l' p.1, p.2)
  | .ref k v i n => by simp [rnA, labs]
  | .ptr k v i j => by simp [rnA, labs]
  | .agg xs => by rw [rnA_agg]; simp only [labs]; exact labs_rnL l l' xs
  | .tup xs => by rw [rnA_tup]; simp only [labs]; exact labs_rnL l l' xs
  | .clo f xs => by rw [rnA_clo]; simp only [labs]; exact labs_rnL l l' xs
  | .undef => by simp [rnA, labs]
  | .val v => by simp [rnA, labs]
  | .e0 => by simp [rnA, labs]
  | .arr sh xs => by simp [rnA, labs]
  | .eptr sh xs i j => by simp [rnA, labs]
theorem labs_rnL (l l' : Nat) : ∀ (xs : List AV), labsL (rnL l l' xs) = (labsL xs).map fun p => (rl l l' p.1, p.2)
  | [] => by simp [rnL, labsL]
  | x :: r => by rw [rnL_cons]; simp only [labsL]; rw [labs_rnA l l' x, labs_rnL l l' r, List.map_append]
end

theorem rnA_rd {w : World} {S : Nat → Prop} {x : AV} {v : Value} (l l' : Nat) (h : Rd w S x v) : rnA l l' x = x := by
  have key : ∀ (xs : List AV), (∀ i (hi : i < xs.length), rnA l l' xs[i] = xs[i]) → rnL l l' xs = xs := by
    intro xs hx
    refine List.ext_getElem (rnL_length l l' xs) fun i h1 h2 => ?_
    rw [rnL_get l l' xs i h2 h1]; exact hx i h2
  induction h with
  | undef v => exact rnA_undef _ _
  | val v h => exact rnA_val _ _ _
  | e0 a => exact rnA_e0 _ _
  | nil sh a => exact rnA_arr _ _ _ _
  | arr => exact rnA_arr _ _ _ _
  | agg xs cs hl hf hv ih => rw [rnA_agg, key xs ih]
  | tup xs cs hl hv ih => rw [rnA_tup, key xs ih]
  | eptr => exact rnA_eptr _ _ _ _ _ _
  | clo f xs cs hl hv ih => rw [rnA_clo, key xs ih]

section
variable {B : Base} {N : Nat} {φ : Nat → LS} {fp : Nat → List Nat} {S : Nat → Prop} {ts : Env} {m : Mem} {a : Act} {w : World}

theorem RV.ren (l l' : Nat) {x : AV} {v : Value} (h : RV w S φ x v) : RV w S (fun k => φ (rl l l' k)) (rnA l l' x) v := by
  induction h with
  | rd x v h => rw [rnA_rd l l' h]; exact .rd x v h
  | agg xs cs hl hf _ ih =>
    rw [rnA_agg]
    refine .agg _ cs (hl.trans (rnL_length l l' xs).symm) (fun i hi => ?_) fun i hi => ?_
    · have h' : i < xs.length := by rw [rnL_length] at hi; exact hi
      rw [rnL_get l l' xs i h' hi]; exact rnA_leaf (hf i h')
    · have h' : i < xs.length := by rw [rnL_length] at hi; exact hi
      rw [rnL_get l l' xs i h' hi]; exact ih i h'
  | tup xs cs hl _ ih =>
    rw [rnA_tup]
    refine .tup _ cs (hl.trans (rnL_length l l' xs).symm) fun i hi => ?_
    have h' : i < xs.length := by rw [rnL_length] at hi; exact hi
    rw [rnL_get l l' xs i h' hi]; exact ih i h'
  | clo f xs cs hl _ ih =>
    rw [rnA_clo]
    refine .clo f _ cs (hl.trans (rnL_length l l' xs).symm) fun i hi => ?_
    have h' : i < xs.length := by rw [rnL_length] at hi; exact hi
    rw [rnL_get l l' xs i h' hi]; exact ih i h'
  | ref k ver i n v h1 h2 h3 =>
    rw [rnA_ref]
    refine .ref _ _ _ _ _ (fun b sh hb => h1 b sh ?_) (fun hb => h2 ?_) h3
    · rwa [rl_rl] at hb
    · rwa [rl_rl] at hb
  | ptr k ver i j v h1 h2 h3 =>
    rw [rnA_ptr]
    refine .ptr _ _ _ _ _ (fun b sh hb => h1 b sh ?_) (fun hb => h2 ?_) h3
    · rwa [rl_rl] at hb
    · rwa [rl_rl] at hb

theorem RS.ren (h : RS B N φ fp S ts m a w) {l l' : Nat} (hl : l < ioL) (hl' : l' < ioL) : RS B N (fun k => φ (rl l l' k)) (fun k => fp (rl l l' k)) S (rnE l l' ts) (rnM l l' m) a w := by
  have kn : ∀ k ver, known m k ver → known (rnM l l' m) (rl l l' k) ver := by
    rintro k ver ⟨b, h1, h2⟩
    exact ⟨rnB l l' b, by rw [lookB_rnM, rl_rl, h1]; rfl, by rw [rnB_ver]; exact h2⟩
  have labs_in : ∀ (x : AV) k ver, (k, ver) ∈ labs (rnA l l' x) → ∃ k0, k = rl l l' k0 ∧ (k0, ver) ∈ labs x := by
    intro x k ver hk
    rw [labs_rnA] at hk
    obtain ⟨⟨k0, v0⟩, h1, h2⟩ := List.mem_map.1 hk
    simp only [Prod.mk.injEq] at h2
    obtain ⟨rfl, rfl⟩ := h2
    exact ⟨k0, rfl, h1⟩
  refine { tm := fun t => ?_, tl := fun t k ver hk => ?_, mNone := fun k hk => ?_, mSome := fun k b hb => ?_, bl := fun k v xs hb k' ver hk => ?_, nod := fun k => h.nod _, dis := fun k k' b h1 h2 => rl_inj (h.dis _ _ b h1 h2),
           notS := fun k b hb => h.notS _ b hb, fpB := fun k b hb => ?_, sB := h.sB, base := h.base, out := h.out, szs := h.szs, kn := fun k ver hk hv => ?_, fix := fun k ver hk hv => ?_, size := h.size, defers := h.defers, tsz := h.tsz, kon := h.kon }
  · rw [look_rnE]; exact (h.tm t).ren l l'
  · rw [look_rnE] at hk
    obtain ⟨k0, rfl, h1⟩ := labs_in _ k ver hk
    exact kn k0 ver (h.tl t k0 ver h1)
  · rw [lookB_rnM] at hk
    exact h.mNone _ (by simpa using hk)
  · rw [lookB_rnM] at hb
    obtain ⟨b0, hb0, rfl⟩ := Option.map_eq_some_iff.1 hb
    have hB := h.mSome _ b0 hb0
    cases b0 with
    | gone v => exact hB
    | row v sh d xs => exact hB
    | lent v xs i u => exact hB
    | sub v sh xs u => exact hB
    | box v xs =>
      obtain ⟨b, cs, e, sh, h1, h2, h3, h4, h5, h6⟩ := hB
      refine ⟨b, cs, e, sh, h1, h2, h3, Nat.le_trans (Nat.le_of_eq (rnL_length l l' xs)) h4, fun i hi => ?_, fun i hi => ?_⟩
      · have h' : i < xs.length := by rw [rnL_length] at hi; exact hi
        rw [rnL_get l l' xs i h' hi]; exact rnA_leaf (h5 i h')
      · have h' : i < xs.length := by rw [rnL_length] at hi; exact hi
        rw [rnL_get l l' xs i h' hi]; exact (h6 i h').ren l l'
  · rw [lookB_rnM] at hb
    obtain ⟨b0, hb0, e⟩ := Option.map_eq_some_iff.1 hb
    cases b0 with
    | gone v => cases e
    | row v sh d xs => cases e
    | lent v xs i u => cases e
    | sub v sh xs u => cases e
    | box v0 xs0 =>
      cases e
      rw [labs_rnL] at hk
      obtain ⟨⟨k0, v1⟩, h1, h2⟩ := List.mem_map.1 hk
      simp only [Prod.mk.injEq] at h2
      obtain ⟨rfl, rfl⟩ := h2
      exact kn k0 v1 (h.bl _ _ _ hb0 k0 v1 h1)
  · have := h.fpB _ b hb
    refine ⟨this.1, this.2.imp id fun ⟨l0, h1, h2, h3⟩ => ?_⟩
    by_cases hk : ioL ≤ k
    · rw [rl_hi hl hl' hk] at h3; exact ⟨l0, h1, hk, h3⟩
    · have := rl_lo hl hl' (Nat.lt_of_not_le hk); omega
  · have := kn k ver (h.kn k ver hk hv)
    rwa [rl_hi hl hl' hk] at this
  · show LS.le (φ (rl l l' k)) _ _
    rw [rl_hi hl hl' hk]; exact h.fix k ver hk hv

inductive RefR : Env → Mem → Env → Mem → Prop
  | here {ts : Env} {m : Mem} {ts2 : Env} {m2 : Mem} (h : refS ts m ts2 m2) : RefR ts m ts2 m2
  | mv {ts : Env} {m : Mem} {ts2 : Env} {m2 : Mem} (l l' : Nat) (hl : l < ioL) (hl' : l' < ioL) (h : RefR (rnE l l' ts) (rnM l l' m) ts2 m2) : RefR ts m ts2 m2

variable {P : Program}
end
end Go.Vc


set_option linter.unusedVariables false
set_option linter.unusedSimpArgs false
set_option linter.unnecessarySimpa false
namespace Go.Vc

section
variable {P : Program} {B : Base} {N : Nat} {φ : Nat → LS} {fp : Nat → List Nat} {S : Nat → Prop} {ts : Env} {m : Mem} {a : Act} {w : World}

theorem RS.ren3 (h : RS B N φ fp S ts m a w) {l l' : Nat} (hl : l < ioL) (h0 : lookB B.m0 l' = none) (hfp : ∀ b, b ∈ fp l' → B.w0.heap.size ≤ b) :
    RS B N (fun k => φ (rl l l' k)) (fun k => fp (rl l l' k)) S (rnE l l' ts) (rnM l l' m) a w := by
  have kn : ∀ k ver, known m k ver → known (rnM l l' m) (rl l l' k) ver := by
    rintro k ver ⟨b, h1, h2⟩
    exact ⟨rnB l l' b, by rw [lookB_rnM, rl_rl, h1]; rfl, by rw [rnB_ver]; exact h2⟩
  have labs_in : ∀ (x : AV) k ver, (k, ver) ∈ labs (rnA l l' x) → ∃ k0, k = rl l l' k0 ∧ (k0, ver) ∈ labs x := by
    intro x k ver hk
    rw [labs_rnA] at hk
    obtain ⟨⟨k0, v0⟩, h1, h2⟩ := List.mem_map.1 hk
    simp only [Prod.mk.injEq] at h2
    obtain ⟨rfl, rfl⟩ := h2
    exact ⟨k0, rfl, h1⟩
  have hi : ∀ k ver, ioL ≤ k → known B.m0 k ver → rl l l' k = k := by
    rintro k ver hk ⟨b, h1, _⟩
    unfold rl
    rw [if_neg (by omega), if_neg (fun e => by subst e; rw [h0] at h1; cases h1)]
  refine { tm := fun t => ?_, tl := fun t k ver hk => ?_, mNone := fun k hk => ?_, mSome := fun k b hb => ?_, bl := fun k v xs hb k' ver hk => ?_, nod := fun k => h.nod _, dis := fun k k' b h1 h2 => rl_inj (h.dis _ _ b h1 h2),
           notS := fun k b hb => h.notS _ b hb, fpB := fun k b hb => ?_, sB := h.sB, base := h.base, out := h.out, szs := h.szs, kn := fun k ver hk hv => ?_, fix := fun k ver hk hv => ?_, size := h.size, defers := h.defers, tsz := h.tsz, kon := h.kon }
  · rw [look_rnE]; exact (h.tm t).ren l l'
  · rw [look_rnE] at hk
    obtain ⟨k0, rfl, h1⟩ := labs_in _ k ver hk
    exact kn k0 ver (h.tl t k0 ver h1)
  · rw [lookB_rnM] at hk
    exact h.mNone _ (by simpa using hk)
  · rw [lookB_rnM] at hb
    obtain ⟨b0, hb0, rfl⟩ := Option.map_eq_some_iff.1 hb
    have hB := h.mSome _ b0 hb0
    cases b0 with
    | gone v => exact hB
    | row v sh d xs => exact hB
    | lent v xs i u => exact hB
    | sub v sh xs u => exact hB
    | box v xs =>
      obtain ⟨b, cs, e, sh, h1, h2, h3, h4, h5, h6⟩ := hB
      refine ⟨b, cs, e, sh, h1, h2, h3, Nat.le_trans (Nat.le_of_eq (rnL_length l l' xs)) h4, fun i hi => ?_, fun i hi => ?_⟩
      · have h' : i < xs.length := by rw [rnL_length] at hi; exact hi
        rw [rnL_get l l' xs i h' hi]; exact rnA_leaf (h5 i h')
      · have h' : i < xs.length := by rw [rnL_length] at hi; exact hi
        rw [rnL_get l l' xs i h' hi]; exact (h6 i h').ren l l'
  · rw [lookB_rnM] at hb
    obtain ⟨b0, hb0, e⟩ := Option.map_eq_some_iff.1 hb
    cases b0 with
    | gone v => cases e
    | row v sh d xs => cases e
    | lent v xs i u => cases e
    | sub v sh xs u => cases e
    | box v0 xs0 =>
      cases e
      rw [labs_rnL] at hk
      obtain ⟨⟨k0, v1⟩, h1, h2⟩ := List.mem_map.1 hk
      simp only [Prod.mk.injEq] at h2
      obtain ⟨rfl, rfl⟩ := h2
      exact kn k0 v1 (h.bl _ _ _ hb0 k0 v1 h1)
  · have hb := hb
    unfold rl at hb
    split at hb
    · refine ⟨(h.fpB _ b hb).1, .inl (hfp b hb)⟩
    · split at hb
      · refine ⟨(h.fpB _ b hb).1, ?_⟩
        rcases (h.fpB _ b hb).2 with hh | ⟨_, _, hh, _⟩
        · exact .inl hh
        · omega
      · exact h.fpB _ b hb
  · have := kn k ver (h.kn k ver hk hv)
    rwa [hi k ver hk hv] at this
  · show LS.le (φ (rl l l' k)) _ _
    rw [hi k ver hk hv]; exact h.fix k ver hk hv

theorem RS.back {N' : Nat} {φ' : Nat → LS} {fp' : Nat → List Nat} {S' : Nat → Prop} {ts' : Env} {m' : Mem} {a' : Act} {w' : World} (h : RS B N φ fp S ts m a w) (hi : ∀ l, lookB m l ≠ none → ioL ≤ l)
    (h' : RS ⟨w, fun l b => b ∈ fp l, S, φ, m⟩ N' φ' fp' S' ts' m' a' w') : RS B N φ' fp' (fun b => S b ∨ (S' b ∧ w.heap.size ≤ b)) ts m' a w' := by
  have hkn : ∀ l ver, known m l ver → ioL ≤ l := fun l ver ⟨k, h1, _⟩ => hi l (by rw [h1]; exact fun e => by cases e)
  have hS : ∀ b, S b → w'.heap[b]? = w.heap[b]? := fun b hb => h'.base b (h.sB b hb).1 fun l hl => h.notS l b hl hb
  have hz : Sized φ w w' := fun l b sh ver cs e _ hb => h'.szs b cs e hb
  have hST : ∀ b, S' b → S b ∨ (S' b ∧ w.heap.size ≤ b) := fun b hb => by
    rcases (h'.sB b hb).2 with hh | hh
    · exact .inr ⟨hb, hh⟩
    · exact .inl hh
  refine { tm := fun t => (h.tm t).mono hS (fun b hb => .inl hb) hz fun l ver hl => h'.fix l ver (hkn l ver (h.tl t l ver hl)) (h.tl t l ver hl),
           tl := fun t l ver hl => h'.kn l ver (hkn l ver (h.tl t l ver hl)) (h.tl t l ver hl), mNone := h'.mNone,
           mSome := fun l k hk => (h'.mSome l k hk).mono (fun _ _ => rfl) hST (fun l b sh ver cs e _ hb => ⟨cs, e, hb, rfl⟩) (fun _ _ => rfl) rfl (fun _ _ _ _ _ _ => LS.le_refl _ _),
           bl := h'.bl, nod := h'.nod, dis := h'.dis, notS := fun l b hb => ?_, fpB := fun l b hb => ?_, sB := fun b hb => ?_, base := fun b hb hio => ?_, out := h.out.trans h'.out, szs := h.szs.trans h'.szs,
           kn := fun l ver hl hk => h'.kn l ver hl (h.kn l ver hl hk), fix := fun l ver hl hk => LS.le_trans (h'.fix l ver hl (h.kn l ver hl hk)) (h.fix l ver hl hk), size := Nat.le_trans h.size h'.size, defers := h.defers, tsz := h.tsz, kon := h.kon.mono hS fun b hb => .inl hb }
  · rintro (hs | hs)
    · rcases (h'.fpB l b hb).2 with hh | ⟨l0, hh, _⟩
      · exact absurd (h.sB b hs).1 (Nat.not_lt.2 hh)
      · exact h.notS l0 b hh hs
    · exact h'.notS l b hb hs.1
  · refine ⟨(h'.fpB l b hb).1, ?_⟩
    rcases (h'.fpB l b hb).2 with hh | ⟨l0, hh, hl, h3⟩
    · exact .inl (Nat.le_trans h.size hh)
    · rcases (h.fpB l0 b hh).2 with h4 | ⟨l1, h4, h5, h6⟩
      · exact .inl h4
      · refine .inr ⟨l1, h4, hl, ?_⟩
        rcases h3 with h3 | h3
        · rw [h3] at h6; exact h6
        · refine .inr ?_
          cases he : lookB B.m0 l with
          | none => rfl
          | some k =>
            obtain ⟨k2, h7, _⟩ := h.kn l k.ver hl ⟨k, he, Nat.le_refl _⟩
            have h3' : lookB m l = none := h3
            rw [h3'] at h7; cases h7
  · rcases hb with hs | hs
    · exact ⟨Nat.lt_of_lt_of_le (h.sB b hs).1 h'.size, (h.sB b hs).2⟩
    · exact ⟨(h'.sB b hs.1).1, .inl (Nat.le_trans h.size hs.2)⟩
  · refine (h'.base b (Nat.lt_of_lt_of_le hb h.size) fun l hl => ?_).trans (h.base b hb hio)
    rcases (h.fpB l b hl).2 with hh | ⟨l1, hh, _⟩
    · exact absurd hb (Nat.not_lt.2 hh)
    · exact hio l1 hh
end

def finI (P : Program) (rs : List ResultVar) (k : AV → Mem → Prop) : Post
  | .normal => fun ts m => sResults P (fun xs => k (mkRes xs) m) rs ts m []
  | .ret => fun ts m => sResults P (fun xs => k (mkRes xs) m) rs ts m []
  | _ => fun _ _ => False
theorem finI_normal (P : Program) (rs : List ResultVar) (k : AV → Mem → Prop) (ts : Env) (m : Mem) : finI P rs k .normal ts m = sResults P (fun xs => k (mkRes xs) m) rs ts m [] := rfl
theorem finI_ret (P : Program) (rs : List ResultVar) (k : AV → Mem → Prop) (ts : Env) (m : Mem) : finI P rs k .ret ts m = sResults P (fun xs => k (mkRes xs) m) rs ts m [] := rfl

def allHi : Mem → Prop
  | [] => True
  | (l, _) :: r => ioL ≤ l ∧ allHi r
theorem allHi_nil : allHi [] = True := rfl
theorem allHi_cons (l : Nat) (b : Blk) (r : Mem) : allHi ((l, b) :: r) = (1000000000 ≤ l ∧ allHi r) := rfl
theorem allHi_get : ∀ {m : Mem}, allHi m → ∀ l, lookB m l ≠ none → ioL ≤ l
  | [], _, l, h => absurd rfl h
  | (k, b) :: r, ⟨h1, h2⟩, l, h => by
    rw [lookB_cons] at h
    split at h
    · rename_i e; subst e; exact h1
    · exact allHi_get h2 l h
def rnsM : List (Nat × Nat) → Mem → Mem
  | [], m => m
  | (l, l') :: r, m => rnsM r (rnM l l' m)
def rnsA : List (Nat × Nat) → AV → AV
  | [], x => x
  | (l, l') :: r, x => rnsA r (rnA l l' x)
def rnsL (ρ : List (Nat × Nat)) (xs : List AV) : List AV := xs.map (rnsA ρ)
def rnsMb : List (Nat × Nat) → Mem → Mem
  | [], m => m
  | (l, l') :: r, m => rnM l l' (rnsMb r m)
def rnsAb : List (Nat × Nat) → AV → AV
  | [], x => x
  | (l, l') :: r, x => rnA l l' (rnsAb r x)
def hasB (b : Option Blk) : Prop := b ≠ none
theorem hasB_some (b : Blk) : hasB (some b) = True := by simp [hasB]
def freeB (b : Option Blk) : Prop := b = none
theorem freeB_none : freeB none = True := by simp [freeB]
def renOk : List (Nat × Nat) → Mem → Prop
  | [], _ => True
  | (l, l') :: r, m => ((l < ioL ∧ ioL ≤ l') ∧ hasB (lookB m l) ∧ freeB (lookB m l')) ∧ renOk r (rnM l l' m)
theorem rnsM_nil (m : Mem) : rnsM [] m = m := rfl
theorem rnsM_cons (l l' : Nat) (r : List (Nat × Nat)) (m : Mem) : rnsM ((l, l') :: r) m = rnsM r (rnM l l' m) := rfl
theorem rnsA_nil (x : AV) : rnsA [] x = x := rfl
theorem rnsA_cons (l l' : Nat) (r : List (Nat × Nat)) (x : AV) : rnsA ((l, l') :: r) x = rnsA r (rnA l l' x) := rfl
theorem rnsL_nil (ρ : List (Nat × Nat)) : rnsL ρ [] = [] := rfl
theorem rnsL_cons (ρ : List (Nat × Nat)) (x : AV) (r : List AV) : rnsL ρ (x :: r) = rnsA ρ x :: rnsL ρ r := rfl
theorem rnsMb_nil (m : Mem) : rnsMb [] m = m := rfl
theorem rnsMb_cons (l l' : Nat) (r : List (Nat × Nat)) (m : Mem) : rnsMb ((l, l') :: r) m = rnM l l' (rnsMb r m) := rfl
theorem rnsAb_nil (x : AV) : rnsAb [] x = x := rfl
theorem rnsAb_cons (l l' : Nat) (r : List (Nat × Nat)) (x : AV) : rnsAb ((l, l') :: r) x = rnA l l' (rnsAb r x) := rfl
theorem renOk_nil (m : Mem) : renOk [] m = True := rfl
theorem renOk_cons (l l' : Nat) (r : List (Nat × Nat)) (m : Mem) : renOk ((l, l') :: r) m = (((l < 1000000000 ∧ 1000000000 ≤ l') ∧ hasB (lookB m l) ∧ freeB (lookB m l')) ∧ renOk r (rnM l l' m)) := rfl

def lowOk : List (Nat × Nat) → Prop
  | [] => True
  | (l, l') :: r => (l < ioL ∧ l' < ioL) ∧ lowOk r
theorem lowOk_nil : lowOk [] = True := rfl
theorem lowOk_cons (l l' : Nat) (r : List (Nat × Nat)) : lowOk ((l, l') :: r) = ((l < 1000000000 ∧ l' < 1000000000) ∧ lowOk r) := rfl
def inF : List Nat → Nat → Bool
  | [], _ => false
  | d :: D, l => l == d || inF D l
theorem inF_nil (l : Nat) : inF [] l = false := rfl
theorem inF_cons (d : Nat) (D : List Nat) (l : Nat) : inF (d :: D) l = (l == d || inF D l) := rfl
def lowP (J : Nat) : List Nat → Mem → List (Nat × Nat)
  | _, [] => []
  | E, (l, _) :: r => if (decide (l < 1000000000) && !inF E l) = true then (l, l + J) :: lowP J (l :: E) r else lowP J E r
theorem lowP_nil (J : Nat) (E : List Nat) : lowP J E [] = [] := rfl
theorem lowP_cons (J : Nat) (E : List Nat) (l : Nat) (b : Blk) (r : Mem) : lowP J E ((l, b) :: r) = if (decide (l < 1000000000) && !inF E l) = true then (l, l + J) :: lowP J (l :: E) r else lowP J E r := rfl
mutual
theorem rnA_rnA (l l' : Nat) : ∀ x : AV, rnA l l' (rnA l l' x) = x
  | .ref k v i n => by simp [rnA, rl_rl]
  | .ptr k v i j => by simp [rnA, rl_rl]
  | .agg xs => by rw [rnA_agg, rnA_agg, rnL_rnL l l' xs]
  | .tup xs => by rw [rnA_tup, rnA_tup, rnL_rnL l l' xs]
  | .clo f xs => by rw [rnA_clo, rnA_clo, rnL_rnL l l' xs]
  | .undef => by simp [rnA]
  | .val v => by simp [rnA]
  | .e0 => by simp [rnA]
  | .arr sh xs => by simp [rnA]
  | .eptr sh xs i j => by simp [rnA]
theorem rnL_rnL (l l' : Nat) : ∀ xs : List AV, rnL l l' (rnL l l' xs) = xs
  | [] => by simp [rnL]
  | x :: r => by rw [rnL_cons, rnL_cons, rnA_rnA l l' x, rnL_rnL l l' r]
end

section
variable {P : Program} {B : Base} {N : Nat} {φ : Nat → LS} {fp : Nat → List Nat} {S : Nat → Prop} {ts : Env} {m : Mem} {a : Act} {w : World}

theorem known_snoc {m : Mem} {acc : List AV} {x : AV} (h : ∀ i (h : i < acc.reverse.length) l ver, (l, ver) ∈ labs acc.reverse[i] → known m l ver) (hx : ∀ l ver, (l, ver) ∈ labs x → known m l ver) :
    ∀ i (h : i < (x :: acc).reverse.length) l ver, (l, ver) ∈ labs (x :: acc).reverse[i] → known m l ver := by
  intro i hi l ver hl
  simp only [List.reverse_cons] at hi hl
  rw [List.getElem_append] at hl
  split at hl
  · exact h i _ l ver hl
  · simp at hl; exact hx l ver hl
theorem results_out' (h : RS B N φ fp S ts m a w) {Q : List AV → Prop} : ∀ (rs : List ResultVar) (acc : List AV) (va : List Value), RdL (RV w S φ) acc.reverse va → (∀ i (h : i < acc.reverse.length) l ver, (l, ver) ∈ labs acc.reverse[i] → known m l ver) → sResults P Q rs ts m acc →
    ∃ xs vs, Q xs ∧ (rs.mapM (resOne a.tmps)).run P w = .ok vs w ∧ RdL (RV w S φ) xs (va ++ vs) ∧ ∀ i (h : i < xs.length) l ver, (l, ver) ∈ labs xs[i] → known m l ver
  | [], acc, va, ha, hl, hk => ⟨_, [], hk, by simp, by simpa using ha, hl⟩
  | .tmp t :: r, acc, va, ha, hl, hk => by
    obtain ⟨xs, vs, h1, h2, h3, h4⟩ := results_out' h r (look ts t :: acc) (va ++ [a.tmps.getD t Go.undef]) (by rw [List.reverse_cons]; exact ha.snoc (h.tm t)) (known_snoc hl (fun l ver hl' => h.tl t l ver hl')) hk
    refine ⟨xs, a.tmps.getD t Go.undef :: vs, h1, ?_, by simpa using h3, h4⟩
    rw [List.mapM_cons]
    simp only [resOne, Sem.run_bind, Sem.run_pure, Result.andThen_ok, h2]
  | .cell p t :: r, acc, va, ha, hl, hk => by
    obtain ⟨ti, ht, hk⟩ := sTI_out hk
    obtain ⟨ad, u, y, hv, hr, hy, hyl, hk⟩ := run_cellR ht h (h.tm p) hk
    obtain ⟨xs, vs, h1, h2, h3, h4⟩ := results_out' h r (y :: acc) (va ++ [u]) (by rw [List.reverse_cons]; exact ha.snoc hy) (known_snoc hl hyl) hk
    refine ⟨xs, u :: vs, h1, ?_, by simpa using h3, h4⟩
    rw [List.mapM_cons]
    simp only [resOne, hv, asAddr, Sem.run_bind, Sem.run_pure, Result.andThen_ok, hr, h2]

theorem mkRes_rv {ys : List AV} {vs : List Value} (hl : vs.length = ys.length) (hv : ∀ i (h : i < ys.length), RV w S φ ys[i] (vs.getD i Go.undef)) :
    RV w S φ (mkRes ys) (if h : vs.toArray.size = 1 then vs.toArray[0] else .tuple vs.toArray) := by
  match ys, vs, hl, hv with
  | [], [], _, _ => exact .rd _ _ (.tup [] #[] rfl fun i hi => absurd hi (Nat.not_lt_zero _))
  | [y], [v], _, hv => simpa [mkRes] using hv 0 (by simp)
  | y :: y' :: r, v :: v' :: r', hl, hv =>
    have : ¬ ((v :: v' :: r').toArray.size = 1) := by simp
    rw [dif_neg this]
    exact .tup _ _ (by simpa using hl) (by simpa using hv)
theorem mkRes_labs {ys : List AV} (h : ∀ i (h : i < ys.length) l ver, (l, ver) ∈ labs ys[i] → known m l ver) : ∀ l ver, (l, ver) ∈ labs (mkRes ys) → known m l ver := by
  intro l ver hl
  match ys, h, hl with
  | [], _, hl => simp [mkRes, labs, labsL] at hl
  | [y], h, hl => exact h 0 (by simp) l ver (by simpa [mkRes] using hl)
  | y :: y' :: r, h, hl =>
    rw [mkRes_two] at hl
    simp only [labs] at hl
    obtain ⟨i, hi, hl2⟩ := of_mem_labsL hl
    exact h i hi l ver hl2

theorem RS.renLow : ∀ (σ : List (Nat × Nat)) {φ : Nat → LS} {fp : Nat → List Nat} {ts : Env} {m : Mem}, lowOk σ → RS B N φ fp S ts m a w → ∃ φ' fp' ts', RS B N φ' fp' S ts' (rnsM σ m) a w ∧ (∀ x v, RV w S φ x v → RV w S φ' (rnsA σ x) v) ∧
    (∀ x, (∀ l ver, (l, ver) ∈ labs x → known m l ver) → ∀ l ver, (l, ver) ∈ labs (rnsA σ x) → known (rnsM σ m) l ver) ∧ ∀ l, ioL ≤ l → fp' l = fp l
  | [], φ, fp, ts, m, _, h => ⟨φ, fp, ts, h, fun _ _ h => h, fun _ h => h, fun _ _ => rfl⟩
  | (l, l') :: r, φ, fp, ts, m, ⟨⟨h1, h2⟩, h3⟩, h => by
    obtain ⟨φ', fp', ts', g1, g2, g3, g4⟩ := RS.renLow r h3 (h.ren h1 h2)
    refine ⟨φ', fp', ts', g1, fun x v hx => g2 _ _ (hx.ren l l'), fun x hx => g3 _ fun k ver hk => ?_, fun k hk => ?_⟩
    · rw [labs_rnA] at hk
      obtain ⟨⟨k0, v0⟩, q1, q2⟩ := List.mem_map.1 hk
      simp only [Prod.mk.injEq] at q2
      obtain ⟨rfl, rfl⟩ := q2
      obtain ⟨b0, q3, q4⟩ := hx k0 v0 q1
      exact ⟨rnB l l' b0, by rw [lookB_rnM, rl_rl, q3]; rfl, by rw [rnB_ver]; exact q4⟩
    · rw [g4 k hk]
      show fp (rl l l' k) = fp k
      rw [rl_hi h1 h2 hk]

theorem inl_sound (J : Nat) {f : FuncId} {fn : Func} {c : Code} (hf : P.funcs[f]? = some fn) (hb : fn.body = some c) (hok : codeOk fn.ntmps c = true) :
    ∀ (ρ : List (Nat × Nat)) {φ : Nat → LS} {fp : Nat → List Nat} {ts : Env} {m : Mem} {xs : List AV} {vs : Array Value} {k : AV → Mem → Prop}, RS B N φ fp S ts m a w → renOk ρ m → allHi (rnsM ρ m) → xs.length ≤ fn.ntmps →
      vs.size = xs.length → (∀ i (h : i < xs.length), RV w S φ xs[i] (vs.toList.getD i Go.undef)) → (∀ i (h : i < xs.length) l ver, (l, ver) ∈ labs xs[i] → known m l ver) →
      vc P fn.ntmps c (argsE 0 (rnsL ρ xs)) (rnsM ρ m) (finI P fn.results.toList fun x m' => lowOk (lowP J [] m') ∧ k (rnsAb ρ (rnsA (lowP J [] m') x)) (rnsMb ρ (rnsM (lowP J [] m') m'))) →
      Calls P f vs w fun e w' => ∃ v, e = .returned v ∧ ∃ φ' fp' S' m' x, RS B N φ' fp' S' ts m' a w' ∧ RV w' S' φ' x v ∧ (∀ l ver, (l, ver) ∈ labs x → known m' l ver) ∧ k x m' ∧
        ∀ l, lookB m l ≠ none → ioL ≤ l → ∀ b, b ∈ fp' l → w.heap.size ≤ b ∨ b ∈ fp l
  | [], φ, fp, ts, m, xs, vs, k, h, _, hhi, ha, hsz, hx, hxl, hv => by
    have hhi := allHi_get hhi
    simp only [rnsM, rnsL] at hhi hv
    rw [show xs.map (rnsA []) = xs from by rw [show rnsA [] = id from rfl, List.map_id]] at hv
    refine calls_of_wp hf hb ?_
    have hRS : RS ⟨w, fun l b => b ∈ fp l, S, φ, m⟩ fn.ntmps φ fp S (argsE 0 xs) m { tmps := vs ++ Array.replicate (fn.ntmps - vs.size) undef, defers := [] } w := by
      refine { tm := fun t => ?_, tl := fun t l ver hl => ?_, mNone := h.mNone, mSome := h.mSome, bl := h.bl, nod := h.nod, dis := h.dis, notS := h.notS, fpB := fun l b hb => ⟨(h.fpB l b hb).1, .inr ⟨l, hb, ?_, .inl rfl⟩⟩,
               sB := fun b hb => ⟨(h.sB b hb).1, .inr hb⟩, base := fun b hb _ => rfl, out := SameOut.refl _, szs := Szs.refl _, kn := fun _ _ _ hk => hk, fix := fun _ _ _ _ => LS.le_refl _ _, size := Nat.le_refl _, defers := rfl, tsz := by simp; omega, kon := h.kon }
      · rw [look_argsE]
        by_cases ht : t < xs.length
        · have h1 := hx t ht
          have e1 : vs.toList.getD t Go.undef = (vs ++ Array.replicate (fn.ntmps - vs.size) undef).getD t Go.undef := by
            have h2 : t < vs.size := by omega
            simp only [Array.getD_eq_getD_getElem?, List.getD_eq_getElem?_getD, Array.getElem?_toList]
            rw [Array.getElem?_append_left h2]
          rw [← e1]
          simpa [ht] using h1
        · have : (if 0 ≤ t then (xs[t - 0]?).getD AV.undef else .undef) = .undef := by simp [List.getElem?_eq_none (show xs.length ≤ t by omega)]
          rw [this]; exact .rd _ _ (.undef _)
      · rw [look_argsE] at hl
        by_cases ht : t < xs.length
        · exact hxl t ht l ver (by simpa [ht] using hl)
        · have : (if 0 ≤ t then (xs[t - 0]?).getD AV.undef else .undef) = .undef := by simp [List.getElem?_eq_none (show xs.length ≤ t by omega)]
          rw [this] at hl; cases hl
      · refine hhi l fun e => ?_
        rw [(h.mNone l e).2] at hb; cases hb
    have hend : ∀ a' w', Done ⟨w, fun l b => b ∈ fp l, S, φ, m⟩ fn.ntmps (fun ts m' => sResults P (fun xs => lowOk (lowP J [] m') ∧ k (rnsA (lowP J [] m') (mkRes xs)) (rnsM (lowP J [] m') m')) fn.results.toList ts m' []) a' w' →
        a'.defers = [] ∧ ∃ v, (results fn a'.tmps).run P w' = .ok v w' ∧ ∃ v', Ending.returned v = .returned v' ∧ ∃ φ' fp' S' m' x, RS B N φ' fp' S' ts m' a w' ∧ RV w' S' φ' x v' ∧ (∀ l ver, (l, ver) ∈ labs x → known m' l ver) ∧ k x m' ∧
          ∀ l, lookB m l ≠ none → ioL ≤ l → ∀ b, b ∈ fp' l → w.heap.size ≤ b ∨ b ∈ fp l := by
      rintro a' w' ⟨φ', fp', S', ts', m', h', hk⟩
      refine ⟨h'.defers, ?_⟩
      obtain ⟨ys, us, ⟨hlow, h1⟩, h2, h3, h4⟩ := results_out' h' fn.results.toList [] [] ⟨rfl, fun i hi => absurd hi (Nat.not_lt_zero _)⟩ (fun i hi => absurd hi (Nat.not_lt_zero _)) hk
      obtain ⟨h3a, h3b⟩ := h3
      simp only [List.nil_append] at h3a h3b
      obtain ⟨φ2, fp2, ts2, r1, r2, r3, r4⟩ := RS.renLow (lowP J [] m') hlow h'
      have hback := h.back hhi r1
      have hST : ∀ b, S' b → S b ∨ (S' b ∧ w.heap.size ≤ b) := fun b hb => by
        rcases (h'.sB b hb).2 with hh | hh
        · exact .inr ⟨hb, hh⟩
        · exact .inl hh
      refine ⟨if h : us.toArray.size = 1 then us.toArray[0] else .tuple us.toArray, ?_, _, rfl, φ2, fp2, _, _, _, hback, ?_, ?_, h1, fun l hl hl2 b hb => ?_⟩
      · have hm : results fn a'.tmps = (do let vs ← fn.results.mapM (resOne a'.tmps); pure (if h : vs.size = 1 then vs[0] else .tuple vs)) := by
          unfold results
          congr 1
        rw [hm, Sem.run_bind, Array.mapM_eq_mapM_toList]
        have : (List.toArray <$> fn.results.toList.mapM (resOne a'.tmps) : Sem (Array Value)).run P w' = .ok us.toArray w' := by
          rw [map_eq_pure_bind, Sem.run_bind, h2]; rfl
        rw [this]; rfl
      · refine (r2 _ _ (mkRes_rv h3a h3b)).mono (fun _ _ => rfl) hST (fun l b sh ver cs e _ hb => ⟨cs, e, hb, rfl⟩) fun _ _ _ => LS.le_refl _ _
      · exact r3 _ (mkRes_labs h4)
      · rw [r4 l hl2] at hb
        rcases (h'.fpB l b hb).2 with hh | ⟨l0, hh, _, h5⟩
        · exact .inl hh
        · rcases h5 with h5 | h5
          · subst h5; exact .inr hh
          · exact absurd h5 hl
    refine wp_mono (vc_sound c _ _ _ hok hv _ _ _ _ _ _ hRS) ?_
    intro e a' w' hq
    cases e with
    | normal => exact hend a' w' hq
    | ret => exact hend a' w' hq
    | _ => obtain ⟨_, _, _, _, _, _, hh⟩ := hq; exact hh.elim
  | (l, l') :: r, φ, fp, ts, m, xs, vs, k, h, ⟨⟨⟨hl, hio⟩, hh, hl'⟩, hok2⟩, hhi, ha, hsz, hx, hxl, hv => by
    have hm0 : lookB B.m0 l' = none := by
      cases he : lookB B.m0 l' with
      | none => rfl
      | some k0 =>
        obtain ⟨k2, h7, _⟩ := h.kn l' k0.ver hio ⟨k0, he, Nat.le_refl _⟩
        rw [show lookB m l' = none from hl'] at h7; cases h7
    have hfp0 : fp l' = [] := (h.mNone l' hl').2
    have h1 := h.ren3 hl hm0 (fun b hb => by rw [hfp0] at hb; cases hb)
    have hne : l ≠ l' := by unfold ioL at *; omega
    have e1 : rl l l' l = l' := by simp [rl]
    have e2 : rl l l' l' = l := by unfold rl; rw [if_neg (Ne.symm hne), if_pos rfl]
    have hlk : ∀ x, lookB (rnM l l' m) x ≠ none ↔ lookB m (rl l l' x) ≠ none := fun x => by rw [lookB_rnM]; cases lookB m (rl l l' x) <;> simp
    have hlen : (rnL l l' xs).length = xs.length := rnL_length l l' xs
    have := inl_sound J hf hb hok r (k := fun x m' => k (rnA l l' x) (rnM l l' m')) (xs := rnL l l' xs) (vs := vs) h1 hok2 hhi (by rw [hlen]; exact ha) (by rw [hlen]; exact hsz) (fun i hi => ?_) (fun i hi l0 ver hl0 => ?_) ?_
    · refine this.mono ?_
      rintro e w' ⟨v, rfl, φ', fp', S', m', x, g1, g2, g3, g4, g5⟩
      have hb5 : ∀ b, b ∈ fp' l' → B.w0.heap.size ≤ b := by
        intro b hb'
        rcases g5 l' ((hlk l').2 (by rw [e2]; exact hh)) hio b hb' with h5 | h5
        · exact Nat.le_trans h.size h5
        · have h5 : b ∈ fp (rl l l' l') := h5
          rw [e2] at h5
          rcases (h.fpB l b h5).2 with h6 | ⟨_, _, h6, _⟩
          · exact h6
          · exact absurd hl (Nat.not_lt.2 h6)
      have g6 := g1.ren3 hl hm0 hb5
      refine ⟨v, rfl, fun k => φ' (rl l l' k), fun k => fp' (rl l l' k), S', rnM l l' m', rnA l l' x, ?_, g2.ren l l', fun l0 ver hl0 => ?_, g4, fun l0 h0 h2 b hb' => ?_⟩
      · have ets : ∀ t, look (rnE l l' (rnE l l' ts)) t = look ts t := fun t => by rw [look_rnE, look_rnE, rnA_rnA]
        exact { g6 with tm := fun t => by rw [← ets]; exact g6.tm t, tl := fun t l ver hl => g6.tl t l ver (by rw [ets]; exact hl) }
      · rw [labs_rnA] at hl0
        obtain ⟨⟨k0, v0⟩, q1, q2⟩ := List.mem_map.1 hl0
        simp only [Prod.mk.injEq] at q2
        obtain ⟨rfl, rfl⟩ := q2
        obtain ⟨b0, q3, q4⟩ := g3 k0 v0 q1
        exact ⟨rnB l l' b0, by rw [lookB_rnM, rl_rl, q3]; rfl, by rw [rnB_ver]; exact q4⟩
      · have n1 : l0 ≠ l := fun e => by subst e; exact absurd hl (Nat.not_lt.2 h2)
        have n2 : l0 ≠ l' := fun e => by subst e; exact h0 hl'
        have e3 : rl l l' l0 = l0 := by unfold rl; rw [if_neg n1, if_neg n2]
        have hb' : b ∈ fp' (rl l l' l0) := hb'
        rw [e3] at hb'
        have := g5 l0 ((hlk l0).2 (by rw [e3]; exact h0)) h2 b hb'
        rcases this with h5 | h5
        · exact .inl h5
        · have h5 : b ∈ fp (rl l l' l0) := h5
          rw [e3] at h5; exact .inr h5
    · have h' : i < xs.length := by rw [hlen] at hi; exact hi
      rw [rnL_get l l' xs i h' hi]; exact (hx i h').ren l l'
    · have h' : i < xs.length := by rw [hlen] at hi; exact hi
      rw [rnL_get l l' xs i h' hi, labs_rnA] at hl0
      obtain ⟨⟨k0, v0⟩, q1, q2⟩ := List.mem_map.1 hl0
      simp only [Prod.mk.injEq] at q2
      obtain ⟨rfl, rfl⟩ := q2
      obtain ⟨b0, q3, q4⟩ := hxl i h' k0 v0 q1
      exact ⟨rnB l l' b0, by rw [lookB_rnM, rl_rl, q3]; rfl, by rw [rnB_ver]; exact q4⟩
    · have : rnsL r (rnL l l' xs) = rnsL ((l, l') :: r) xs := by
        refine List.ext_getElem (by simp [rnsL, hlen]) fun i h1 h2 => ?_
        simp only [rnsL, List.getElem_map]
        rw [rnL_get l l' xs i (by simpa [rnsL] using h2)]; rfl
      rw [this]; exact hv

theorem sCallT_inl {f : FuncId} {d : Nat} {xs xt : List AV} {m : Mem} {k : AV → Mem → Prop} {q : Pack k} {fn : Func} {c : Code} (J : Nat) (N : Nat) (rs : List ResultVar) (hf : P.funcs[f]? = some fn) (hN : fn.ntmps = N) (hr : fn.results.toList = rs)
    (hn : (fn.name == "runtime.NumGoroutine") = false) (hb : fn.body = some c) (hok : codeOk N c = true) (ha : xs.length ≤ N)
    (hv : (renOk (lowP 1500000000 [] m) m ∧ allHi (rnsM (lowP 1500000000 [] m) m)) ∧ vc P N c (argsE 0 (rnsL (lowP 1500000000 [] m) xs)) (rnsM (lowP 1500000000 [] m) m)
      (finI P rs fun x m' => lowOk (lowP J [] m') ∧ k (rnsAb (lowP 1500000000 [] m) (rnsA (lowP J [] m') x)) (rnsMb (lowP 1500000000 [] m) (rnsM (lowP J [] m') m')))) : sCallT P f d xs xt m k q := by
  subst hN; subst hr
  refine .inl fun B N φ fp S ts a w vs hRS hsz hx hxl => ⟨⟨fn, c, hf, hn, hb⟩, ?_⟩
  refine (inl_sound J hf hb hok _ hRS hv.1.1 hv.1.2 ha hsz hx hxl hv.2).mono ?_
  rintro e w' ⟨v, rfl, φ', fp', S', m', x, g1, g2, g3, g4, _⟩
  exact ⟨v, rfl, φ', fp', S', ts, m', x, g1, g2, g3, rfl, g4⟩
end
end Go.Vc


set_option linter.unusedVariables false
set_option linter.unusedSimpArgs false
set_option linter.unnecessarySimpa false
namespace Go.Vc

def D1 {α : Type} (G : (α → Prop) → Prop) : Prop := ∀ k, G k → ∃ x, k x ∧ ∀ k', k' x → G k'
theorem D1.pure {α : Type} (x : α) : D1 fun k => k x := fun _ h => ⟨x, h, fun _ h => h⟩
theorem D1.no {α : Type} : D1 fun _ : α → Prop => False := fun _ h => h.elim
theorem D1.and {α : Type} {G : (α → Prop) → Prop} (p : Prop) (h : D1 G) : D1 fun k => p ∧ G k := fun k hk =>
  have ⟨x, h1, h2⟩ := h k hk.2
  ⟨x, h1, fun k' hk' => ⟨hk.1, h2 k' hk'⟩⟩
theorem D1.bind {α β : Type} {G : (α → Prop) → Prop} {H : α → (β → Prop) → Prop} (h : D1 G) (h' : ∀ x, D1 (H x)) : D1 fun k => G fun x => H x k := fun k hk =>
  have ⟨x, h1, h2⟩ := h _ hk
  have ⟨y, g1, g2⟩ := h' x k h1
  ⟨y, g1, fun k' hk' => h2 _ (g2 k' hk')⟩

theorem D1.opt (o : Option AV) : D1 (sOpt o) := by
  cases o with
  | none => exact D1.no
  | some x => exact D1.pure x
theorem D1.fld (o : Option (Nat × Nat × Bool)) : D1 (sFld o) := by
  cases o with
  | none => exact D1.no
  | some x => exact D1.pure x
theorem D1.ti (o : Option TI) : D1 (sTI o) := by
  cases o with
  | none => exact D1.no
  | some x => exact D1.pure x
theorem D1.ifs {α : Type} (c : Bool) (x y : α) : D1 fun k : α → Prop => (c = true → k x) ∧ (c = false → k y) := by
  intro k hk
  cases c with
  | true => exact ⟨x, hk.1 rfl, fun k' hk' => ⟨fun _ => hk', fun h => (by cases h)⟩⟩
  | false => exact ⟨y, hk.2 rfl, fun k' hk' => ⟨fun h => (by cases h), fun _ => hk'⟩⟩
theorem D1.pick (c a b : AV) : D1 (sPick c a b) := by
  unfold sPick; split
  · exact D1.ifs _ _ _
  · exact D1.no
theorem D1.wrap (i : IntKind) (n : Int) : D1 (sWrap i n) := by
  unfold sWrap; split
  · exact D1.and _ (D1.pure _)
  · exact D1.pure _
theorem D1.intBin (op : BinOp) (i : IntKind) (x y : Int) : D1 (intBin op i x y) := by
  unfold Go.Vc.intBin
  split <;> first
    | exact D1.wrap _ _
    | exact D1.pure _
    | exact D1.and _ (D1.wrap _ _)
    | exact D1.and _ (D1.pure _)
    | exact D1.no
theorem D1.strBin (op : BinOp) (x y : ByteArray) : D1 (strBin op x y) := by
  unfold Go.Vc.strBin
  split <;> first
    | exact D1.pure _
    | exact D1.and _ (D1.pure _)
    | exact D1.no
theorem D1.bin (op : BinOp) (kd : TK) (a b : AV) : D1 (sBin op kd a b) := by
  unfold sBin
  split
  · exact D1.and _ (D1.intBin _ _ _ _)
  · exact D1.strBin _ _ _
  · split <;> first | exact D1.pure _ | exact D1.no
  · exact D1.no
theorem D1.not (a : AV) : D1 (sNot a) := by
  unfold sNot; split <;> first | exact D1.pure _ | exact D1.no
theorem D1.neg (a : AV) : D1 (sNeg a) := by
  unfold sNeg; split <;> first | exact D1.wrap _ _ | exact D1.no
theorem D1.conv (d : TK) (a : AV) : D1 (sConv d a) := by
  unfold sConv; split <;> first | exact D1.wrap _ _ | exact D1.pure _ | exact D1.no
theorem D1.max (a b : AV) : D1 (sMax a b) := by
  unfold sMax; split <;> first | exact D1.pure _ | exact D1.no
theorem D1.min (a b : AV) : D1 (sMin a b) := by
  unfold sMin; split <;> first | exact D1.pure _ | exact D1.no
theorem D1.tup (i : Nat) (a : AV) : D1 (sTup i a) := by
  unfold sTup; split <;> first | exact D1.opt _ | exact D1.no
theorem D1.part (ag : Bool) (n j : Nat) (x : AV) : D1 (sPart ag n j x) := by
  unfold sPart
  split <;> first | exact D1.opt _ | exact D1.and _ (D1.pure _) | exact D1.no
theorem D1.partA (ag : Bool) (n j : Nat) (x : AV) : D1 (sPartA ag n j x) := by
  unfold sPartA; split <;> first | exact D1.part _ _ _ _ | exact D1.no
theorem D1.index (x i : AV) : D1 (sIndex x i) := by
  unfold sIndex; split <;> first | exact D1.and _ (D1.pure _) | exact D1.no
theorem D1.cells (x : AV) : D1 (sCells x) := by
  unfold sCells; split <;> first | exact D1.pure _ | exact D1.no
theorem D1.fill (fs : List (Nat × Nat × Bool)) : ∀ (ps : List (Nat × AV)) (cells : List AV), D1 fun k => sFill fs cells k ps
  | [], cells => D1.pure cells
  | (i, x) :: r, cells => D1.bind (H := fun (fd : Nat × Nat × Bool) k => sCells x fun ys => ys.length = fd.2.1 ∧ fd.1 + ys.length ≤ cells.length ∧ sFill fs (setL cells fd.1 ys) k r) (D1.fld _) fun fd =>
      D1.bind (H := fun (ys : List AV) k => ys.length = fd.2.1 ∧ fd.1 + ys.length ≤ cells.length ∧ sFill fs (setL cells fd.1 ys) k r) (D1.cells x) fun ys => D1.and _ (D1.and _ (D1.fill fs r _))
theorem D1.build (ti : TI) (ps : List (Nat × AV)) : D1 (sBuild ti ps) :=
  D1.bind (H := fun (zs : List AV) k => sFill ti.fields zs (fun cs => k (AV.agg cs)) ps) (D1.cells _) fun zs => D1.bind (G := fun k => sFill ti.fields zs k ps) (H := fun (cs : List AV) k => k (AV.agg cs)) (D1.fill _ _ _) fun cs => D1.pure (AV.agg cs)
theorem D1.fillR (sh : Sh) : ∀ (ps : List (Nat × AV)) (xs : List AV), D1 fun k => sFillR sh xs k ps
  | [], xs => D1.pure xs
  | (i, x) :: r, xs => D1.and _ (D1.and _ (D1.and _ (D1.fillR sh r _)))
theorem D1.live (v : Nat) (b : Option Blk) (x : AV) : D1 fun k : AV → Prop => sLive v b (k x) := by
  unfold sLive; split <;> first | exact D1.and _ (D1.pure _) | exact D1.no
theorem D1.nil (m : Mem) (x : AV) : D1 (sNil m x) := by
  unfold sNil; split <;> first | exact D1.live _ _ _ | exact D1.pure _ | exact D1.no
theorem D1.field (j : Nat) (m : Mem) (x : AV) : D1 (sField j m x) := by
  unfold sField; split <;> first | exact D1.live _ _ _ | exact D1.pure _ | exact D1.no
theorem D1.len (kd : TK) (m : Mem) (x : AV) : D1 (sLen kd m x) := by
  unfold sLen; split <;> first | exact D1.live _ _ _ | exact D1.pure _ | exact D1.no
theorem D1.rsh {α : Type} (sh : Sh) (v : Nat) (b : Option Blk) {G : (α → Prop) → Prop} (h : D1 G) : D1 fun k => sRSh sh v b (G k) := by
  unfold sRSh; split <;> first | exact D1.and _ (D1.and _ h) | exact D1.no
theorem D1.bnd (x : Option AV) (d : Int) : D1 (sBnd x d) := by
  unfold sBnd; split <;> first | exact D1.pure _ | exact D1.no
theorem D1.idxB (sh : Sh) (l v i0 n : Nat) (i : Int) (b : Option Blk) : D1 (sIdxB sh l v i0 n i b) := by
  unfold sIdxB; split <;> first | exact D1.and _ (D1.and _ (D1.and _ (D1.pure _))) | exact D1.and _ (D1.and _ (D1.and _ (D1.and _ (D1.pure _)))) | exact D1.no
theorem D1.idx (sh : Sh) (m : Mem) (x i : AV) : D1 (sIdx sh m x i) := by
  unfold sIdx; split <;> first | exact D1.and _ (D1.and _ (D1.pure _)) | exact D1.idxB _ _ _ _ _ _ _ | exact D1.no
theorem D1.slice (sh : Sh) (x : AV) (lo hi : Option AV) (m : Mem) : D1 (sSlice sh x lo hi m) := by
  unfold sSlice
  split
  · exact D1.bind (D1.bnd _ _) fun l => D1.bind (D1.bnd _ _) fun h => D1.and _ (D1.pure _)
  · exact D1.bind (D1.bnd _ _) fun l => D1.bind (D1.bnd _ _) fun h => D1.and _ (D1.and _ (D1.pure _))
  · exact D1.rsh _ _ _ (D1.bind (D1.bnd _ _) fun l => D1.bind (D1.bnd _ _) fun h => D1.and _ (D1.pure _))
  · exact D1.no
theorem D1.slice0 (m : Mem) (x : AV) : D1 (sSlice0 m x) := by
  unfold sSlice0; split <;> first | exact D1.pure _ | exact D1.live _ _ _ | exact D1.and _ (D1.pure _)
theorem D1.bytesL : ∀ (xs : List AV) (acc : List UInt8), D1 fun k => sBytesL k acc xs
  | [], _ => D1.pure _
  | x :: r, acc => by
    cases x <;> try exact D1.no
    rename_i v
    cases v <;> try exact D1.no
    rename_i i z
    cases i <;> try exact D1.no
    exact D1.and _ (D1.bytesL r _)
theorem D1.bytes (y : AV) : D1 (sBytes y) := by
  unfold sBytes; split <;> first | exact D1.bytesL _ _ | exact D1.no
theorem D1.chr (y : AV) : D1 (sChr y) := by
  unfold sChr; split <;> first | exact D1.and _ (D1.pure _) | exact D1.no
theorem D1.isU8 {α : Type} (kd : TK) {G : (α → Prop) → Prop} (h : D1 G) : D1 fun k => Vc.isU8 kd (G k) := by
  unfold Vc.isU8; split <;> first | exact h | exact D1.no
theorem D1.slK (P : Program) (tt : TI) (x : AV) (lo hi : Option AV) (m : Mem) : D1 (sSlK P tt x lo hi m) := by
  unfold sSlK
  split
  · exact D1.and _ (D1.slice _ _ _ _ _)
  · exact D1.and _ (D1.bind (D1.ti _) fun ti => D1.slice _ _ _ _ _)
  · exact D1.no
theorem D1.srcB (sh : Sh) (v i n : Nat) (b : Option Blk) : D1 (sSrcB sh v i n b) := by
  unfold sSrcB; split <;> first | exact D1.and _ (D1.and _ (D1.and _ (D1.pure _))) | exact D1.no
theorem D1.src (sh : Sh) (y : AV) (m : Mem) : D1 (sSrc sh y m) := by
  unfold sSrc; split <;> first | exact D1.and _ (D1.pure _) | exact D1.srcB _ _ _ _ _

def NL (x : AV) (l : Nat) : Prop := ∃ ver, (l, ver) ∈ labs x
theorem NL.ref (l v i n : Nat) : NL (.ref l v i n) l := ⟨v, by simp [labs]⟩
theorem NL.ptr (l v i j : Nat) : NL (.ptr l v i j) l := ⟨v, by simp [labs]⟩
def Like (R : Nat → Prop) (m m' : Mem) : Prop := ∀ l, R l → lookB m' l = lookB m l

theorem like_nil {m m' : Mem} {x : AV} (h : Like (NL x) m m') : sNil m' x = sNil m x := by
  funext k
  unfold sNil
  split <;> first | rfl | exact congrArg (fun b => sLive _ b _) (h _ (NL.ptr _ _ _ _)) | rw [h _ (NL.ref _ _ _ _)]
theorem like_field {m m' : Mem} {x : AV} (j : Nat) (h : Like (NL x) m m') : sField j m' x = sField j m x := by
  funext k
  unfold sField
  split <;> first | rfl | exact congrArg (fun b => sLive _ b _) (h _ (NL.ptr _ _ _ _)) | rw [h _ (NL.ref _ _ _ _)]
theorem like_len {m m' : Mem} {x : AV} (kd : TK) (h : Like (NL x) m m') : sLen kd m' x = sLen kd m x := by
  funext k
  unfold sLen
  split <;> first | rfl | exact congrArg (fun b => sLive _ b _) (h _ (NL.ptr _ _ _ _)) | rw [h _ (NL.ref _ _ _ _)]
theorem like_idx {m m' : Mem} {x : AV} (sh : Sh) (i : AV) (h : Like (NL x) m m') : sIdx sh m' x i = sIdx sh m x i := by
  funext k
  unfold sIdx
  split <;> first | rfl | exact congrArg (fun b => sLive _ b _) (h _ (NL.ptr _ _ _ _)) | rw [h _ (NL.ref _ _ _ _)]
theorem like_slice {m m' : Mem} {x : AV} (sh : Sh) (lo hi : Option AV) (h : Like (NL x) m m') : sSlice sh x lo hi m' = sSlice sh x lo hi m := by
  funext k
  unfold sSlice
  split <;> first | rfl | exact congrArg (fun b => sLive _ b _) (h _ (NL.ptr _ _ _ _)) | rw [h _ (NL.ref _ _ _ _)]
theorem like_slice0 {m m' : Mem} {x : AV} (h : Like (NL x) m m') : sSlice0 m' x = sSlice0 m x := by
  funext k
  unfold sSlice0
  split <;> first | rfl | exact congrArg (fun b => sLive _ b _) (h _ (NL.ptr _ _ _ _)) | rw [h _ (NL.ref _ _ _ _)]
theorem like_slK {P : Program} {tt : TI} {m m' : Mem} {x : AV} (lo hi : Option AV) (h : Like (NL x) m m') : sSlK P tt x lo hi m' = sSlK P tt x lo hi m := by
  funext k
  unfold sSlK
  simp only [like_slice _ _ _ h]
theorem like_src {m m' : Mem} {x : AV} (sh : Sh) (h : Like (NL x) m m') : sSrc sh x m' = sSrc sh x m := by
  funext k
  unfold sSrc
  split <;> first | rfl | exact congrArg (fun b => sLive _ b _) (h _ (NL.ptr _ _ _ _)) | rw [h _ (NL.ref _ _ _ _)]
theorem like_leafT {m m' : Mem} {x : AV} (h : Like (NL x) m m') : sLeafT m' x = sLeafT m x := by
  funext k
  unfold sLeafT
  split <;> first | rfl | exact congrArg (fun b => sLive _ b _) (h _ (NL.ptr _ _ _ _)) | rw [h _ (NL.ref _ _ _ _)]
theorem like_leavesT {m m' : Mem} (k : List AV → Prop) : ∀ (xs acc : List AV), (∀ x, x ∈ xs → Like (NL x) m m') → sLeavesT m' k acc xs = sLeavesT m k acc xs
  | [], acc, _ => rfl
  | x :: r, acc, h => by
    simp only [sLeavesT]
    rw [like_leafT (h x (List.mem_cons_self ..))]
    congr 1
    funext y
    exact like_leavesT k r _ fun z hz => h z (List.mem_cons_of_mem _ hz)
theorem like_tree {m m' : Mem} {x : AV} (h : Like (NL x) m m') : sTree m' x = sTree m x := by
  funext k
  cases x with
  | agg xs =>
    simp only [sTree]
    refine like_leavesT _ xs [] fun y hy l hl => h l ?_
    obtain ⟨ver, hv⟩ := hl
    obtain ⟨i, hi, rfl⟩ := List.getElem_of_mem hy
    exact ⟨ver, by simp only [labs]; exact mem_labsL hi hv⟩
  | ref l v i n => simp only [sTree]; rw [like_leafT h]
  | _ => rfl
theorem like_trees {m m' : Mem} (k : List AV → Prop) : ∀ (xs acc : List AV), (∀ x, x ∈ xs → Like (NL x) m m') → sTrees m' k acc xs = sTrees m k acc xs
  | [], acc, _ => rfl
  | x :: r, acc, h => by
    simp only [sTrees]
    rw [like_tree (h x (List.mem_cons_self ..))]
    congr 1
    funext y
    exact like_trees k r _ fun z hz => h z (List.mem_cons_of_mem _ hz)

theorem lookB_append (a b : Mem) (l : Nat) : lookB (a ++ b) l = match lookB a l with | some x => some x | none => lookB b l := by
  induction a with
  | nil => rfl
  | cons p r ih =>
    obtain ⟨k, v⟩ := p
    simp only [List.cons_append, lookB_cons]
    by_cases h : k = l
    · simp [h]
    · simp [h, ih]

def DM {α : Type} (F : Mem → (α → Mem → Prop) → Prop) (R : Nat → Prop) (m : Mem) : Prop :=
  ∀ k, F m k → ∃ x new, k x (new ++ m) ∧ ∀ m', Like R m m' → Like (fun l => lookB new l ≠ none) m m' → ∀ k', k' x (new ++ m') → F m' k'

theorem DM.still {α : Type} {R : Nat → Prop} {m : Mem} {G : Mem → (α → Prop) → Prop} (h : D1 (G m)) (hl : ∀ m', Like R m m' → G m' = G m) : DM (fun m k => G m fun v => k v m) R m := fun k hk =>
  have ⟨x, h1, h2⟩ := h _ hk
  ⟨x, [], h1, fun m' hm _ k' hk' => by show G m' _; rw [hl m' hm]; exact h2 _ hk'⟩
theorem DM.no {α : Type} (R : Nat → Prop) (m : Mem) : DM (fun _ (_ : α → Mem → Prop) => False) R m := fun _ h => h.elim
theorem DM.and {α : Type} {F : Mem → (α → Mem → Prop) → Prop} {R : Nat → Prop} {m : Mem} (p : Prop) (h : DM F R m) : DM (fun m k => p ∧ F m k) R m := fun k hk =>
  have ⟨x, new, h1, h2⟩ := h k hk.2
  ⟨x, new, h1, fun m' hm hm' k' hk' => ⟨hk.1, h2 m' hm hm' k' hk'⟩⟩
theorem DM.pre {α β : Type} {F : α → Mem → (β → Mem → Prop) → Prop} {G : Mem → (α → Prop) → Prop} {R : Nat → Prop} {m : Mem} (hg : D1 (G m)) (hl : ∀ m', Like R m m' → G m' = G m) (h : ∀ x, DM (F x) R m) :
    DM (fun m k => G m fun x => F x m k) R m := fun k hk =>
  have ⟨x, h1, h2⟩ := hg _ hk
  have ⟨y, new, g1, g2⟩ := h x k h1
  ⟨y, new, g1, fun m' hm hm' k' hk' => by show G m' _; rw [hl m' hm]; exact h2 _ (g2 m' hm hm' k' hk')⟩
theorem DM.pre' {α β : Type} {F : α → Mem → (β → Mem → Prop) → Prop} {G : (α → Prop) → Prop} {R : Nat → Prop} {m : Mem} (hg : D1 G) (h : ∀ x, DM (F x) R m) : DM (fun m k => G fun x => F x m k) R m :=
  DM.pre (G := fun _ => G) hg (fun _ _ => rfl) h
theorem DM.bind {α β : Type} {one : Mem → (α → Mem → Prop) → Prop} {rest : α → Mem → (β → Mem → Prop) → Prop} {R : Nat → Prop} {m : Mem} (h : DM one R m) (h' : ∀ y new, DM (rest y) R (new ++ m)) :
    DM (fun m k => one m fun y m1 => rest y m1 k) R m := fun k hk => by
  obtain ⟨y, n1, h1, h2⟩ := h _ hk
  obtain ⟨z, n2, g1, g2⟩ := h' y n1 k h1
  refine ⟨z, n2 ++ n1, by rw [List.append_assoc]; exact g1, fun m' hm hm' k' hk' => h2 m' hm (fun l hl => hm' l ?_) _ (g2 (n1 ++ m') (fun l hl => ?_) (fun l hl => ?_) k' (by rw [← List.append_assoc]; exact hk'))⟩
  · show lookB (n2 ++ n1) l ≠ none
    have hl : lookB n1 l ≠ none := hl
    rw [lookB_append]; split <;> simp_all
  · rw [lookB_append, lookB_append, hm l hl]
  · rw [lookB_append, lookB_append]
    have hl : lookB n2 l ≠ none := hl
    cases hn : lookB n1 l with
    | some x => rfl
    | none => exact hm' l (by show lookB (n2 ++ n1) l ≠ none; rw [lookB_append]; split <;> simp_all)
theorem DM.put {α : Type} {R : Nat → Prop} {m : Mem} {x : Mem → α} (l : Nat) (b : Mem → Blk) (hx : ∀ m', lookB m' l = lookB m l → x m' = x m ∧ b m' = b m) : DM (fun m k => k (x m) ((l, b m) :: m)) R m := fun k hk =>
  ⟨x m, [(l, b m)], hk, fun m' _ hm' k' hk' => by
    obtain ⟨h1, h2⟩ := hx m' (hm' l (by simp [lookB_cons]))
    rw [h1, h2]; exact hk'⟩
theorem DM.ret {α : Type} {R : Nat → Prop} {m : Mem} (x : α) : DM (fun m (k : α → Mem → Prop) => k x m) R m := fun k hk => ⟨x, [], hk, fun _ _ _ _ hk' => hk'⟩
theorem newVer_like {m m' : Mem} {l : Nat} (h : lookB m' l = lookB m l) : newVer m' l = newVer m l := by simp [newVer, h]

variable {R : Nat → Prop}
theorem DM.box (d : Nat) (y : AV) (m : Mem) : DM (sBox d y) R m :=
  DM.pre' (F := fun ys m k => k (AV.ptr d (newVer m d) 0 0) ((d, Blk.box (newVer m d) ys) :: m)) (D1.cells y) fun ys => DM.put (x := fun m => AV.ptr d (newVer m d) 0 0) d (fun m => Blk.box (newVer m d) ys) fun m' h => by rw [newVer_like h]; exact ⟨rfl, rfl⟩
theorem DM.make (ti : TI) (d : Nat) (x y : AV) (m : Mem) : DM (sMake ti d x y) R m := by
  unfold sMake
  split
  · exact DM.and _ (DM.and _ (DM.and _ (DM.put d _ fun m' h => by rw [newVer_like h]; exact ⟨rfl, rfl⟩)))
  · exact DM.no _ _
theorem DM.buildSlice (ti : TI) (d n : Nat) (ps : List (Nat × AV)) (m : Mem) : DM (sBuildSlice ti d n ps) R m :=
  DM.and _ (DM.pre' (G := fun k => sFillR ti.sh (List.replicate n ti.zero) k ps) (F := fun xs m k => k (AV.ref d (newVer m d) 0 n) ((d, Blk.row (newVer m d) ti.sh (isFlatL xs) xs) :: m)) (D1.fillR _ _ _) fun xs =>
    DM.put (x := fun m => AV.ref d (newVer m d) 0 n) d (fun m => Blk.row (newVer m d) ti.sh (isFlatL xs) xs) fun m' h => by rw [newVer_like h]; exact ⟨rfl, rfl⟩)

theorem DM.load (ag : Bool) (n : Nat) (p : AV) (m : Mem) : DM (sLoad ag n p) (NL p) m := by
  intro k hk
  unfold sLoad at hk
  split at hk
  · rename_i l ver i j
    cases hb : lookB m l with
    | none => rw [hb] at hk; exact hk.elim
    | some b =>
      rw [hb] at hk
      have hh : ∀ m', Like (NL (.ptr l ver i j)) m m' → lookB m' l = some b := fun m' hm => (hm l (NL.ptr _ _ _ _)).trans hb
      cases b with
      | gone v => exact hk.elim
      | box v xs =>
        obtain ⟨h1, h2, hk⟩ := hk
        have hd : D1 fun q : AV → Prop => if ag then j + n ≤ xs.length ∧ q (.agg ((xs.drop j).take n)) else sOpt xs[j]? q := by
          cases ag with
          | true => exact D1.and _ (D1.pure _)
          | false => exact D1.opt _
        obtain ⟨x, g1, g2⟩ := hd (fun y => k y m) hk
        exact ⟨x, [], g1, fun m' hm _ k' hk' => by
          show sLoadB ag n l ver i j (lookB m' l) m' k'
          rw [hh m' hm]
          exact ⟨h1, h2, g2 (fun y => k' y m') hk'⟩⟩
      | lent v xs i u => exact hk.elim
      | sub v sh xs u =>
        obtain ⟨h1, hk⟩ := hk
        obtain ⟨x, hx, g1⟩ := D1.opt _ _ hk
        obtain ⟨y, hy, g2⟩ := D1.part _ _ _ _ _ hx.2
        refine ⟨y, [], hy, fun m' hm _ k' hk' => ?_⟩
        show sLoadB ag n l ver i j (lookB m' l) m' k'
        rw [hh m' hm]
        exact ⟨h1, g1 _ ⟨hx.1, g2 (fun y => k' y m') hk'⟩⟩
      | row v sh deep xs =>
        obtain ⟨h1, hk⟩ := hk
        obtain ⟨x, hx, g1⟩ := D1.opt _ _ hk
        obtain ⟨y, hy, g2⟩ := D1.part _ _ _ _ _ hx
        by_cases hu : deep = true ∧ isFlat x = false
        · unfold sUndeep at hy
          rw [if_pos hu] at hy
          refine ⟨y, [(l, .row v sh false xs)], hy.2, fun m' hm _ k' hk' => ?_⟩
          show sLoadB ag n l ver i j (lookB m' l) m' k'
          rw [hh m' hm]
          refine ⟨h1, g1 _ (g2 _ ?_)⟩
          unfold sUndeep
          rw [if_pos hu]
          exact ⟨hy.1, hk'⟩
        · unfold sUndeep at hy
          rw [if_neg hu] at hy
          refine ⟨y, [], hy, fun m' hm _ k' hk' => ?_⟩
          show sLoadB ag n l ver i j (lookB m' l) m' k'
          rw [hh m' hm]
          refine ⟨h1, g1 _ (g2 _ ?_)⟩
          unfold sUndeep
          rw [if_neg hu]
          exact hk'
  · rename_i sh xs i j
    obtain ⟨x, hx, g1⟩ := D1.opt _ _ hk
    obtain ⟨y, hy, g2⟩ := D1.part _ _ _ _ _ hx
    exact ⟨y, [], hy, fun m' _ _ k' hk' => g1 _ (g2 (fun y => k' y m') hk')⟩
  · exact hk.elim

theorem D1.put (j : Nat) (x y : AV) : D1 (sPut j x y) := by
  unfold sPut; split <;> first | exact D1.and _ (D1.pure _) | exact D1.no

theorem DM.store (n : Nat) (p y : AV) (m : Mem) : DM (fun m k => sStore n p y m fun m' => k AV.undef m') (NL p) m := by
  intro k hk
  unfold sStore at hk
  split at hk
  · rename_i l ver i j
    cases hb : lookB m l with
    | none => rw [hb] at hk; exact hk.elim
    | some b =>
      rw [hb] at hk
      have hh : ∀ m', Like (NL (.ptr l ver i j)) m m' → lookB m' l = some b := fun m' hm => (hm l (NL.ptr _ _ _ _)).trans hb
      cases b with
      | gone v => exact hk.elim
      | box v xs =>
        obtain ⟨h1, h2, hk⟩ := hk
        obtain ⟨ys, g1, g2⟩ := D1.cells _ _ hk
        refine ⟨.undef, [(l, .box v (setL xs j ys))], g1.2.2, fun m' hm _ k' hk' => ?_⟩
        show sStoreB l ver i j (lookB m' l) y m' n _
        rw [hh m' hm]
        exact ⟨h1, h2, g2 _ ⟨g1.1, g1.2.1, hk'⟩⟩
      | lent v xs i0 u0 => exact hk.elim
      | sub v sh xs u0 =>
        obtain ⟨h1, h2, hk⟩ := hk
        obtain ⟨x, hx, g1⟩ := D1.opt _ _ hk
        obtain ⟨h3, h4, hx⟩ := hx
        obtain ⟨x', hx', g2⟩ := D1.put _ _ _ _ hx
        refine ⟨.undef, [(l, .sub v sh (xs.set i x') u0)], hx', fun m' hm _ k' hk' => ?_⟩
        show sStoreB l ver i j (lookB m' l) y m' n _
        rw [hh m' hm]
        exact ⟨h1, h2, g1 _ ⟨h3, h4, g2 _ hk'⟩⟩
      | row v sh deep xs =>
        obtain ⟨h1, h2, hk⟩ := hk
        obtain ⟨x, hx, g1⟩ := D1.opt _ _ hk
        obtain ⟨h3, h4, hx⟩ := hx
        obtain ⟨x', hx', g2⟩ := D1.put _ _ _ _ hx
        refine ⟨.undef, [(l, .row v sh deep (xs.set i x'))], hx', fun m' hm _ k' hk' => ?_⟩
        show sStoreB l ver i j (lookB m' l) y m' n _
        rw [hh m' hm]
        exact ⟨h1, h2, g1 _ ⟨h3, h4, g2 _ hk'⟩⟩
  · exact hk.elim

theorem DM.app1 (ti : TI) (d : Nat) (x : AV) (ys : List AV) (m : Mem) : DM (sApp1 ti d x ys) (NL x) m := by
  unfold sApp1
  split
  · rename_i l v i n
    intro k hk
    cases hb : lookB m l with
    | none => simp only [hb] at hk; exact hk.elim
    | some b =>
      simp only [hb] at hk
      cases b with
      | row v' sh deep xs =>
        obtain ⟨h1, h2, h3, h4, h5, hk⟩ := hk
        refine ⟨.ref l (v + 1) 0 (n + ys.length), [(l, .row (v + 1) ti.sh deep (xs.take n ++ ys))], hk, fun m' hm _ k' hk' => ?_⟩
        show sAppB ti l v i n (lookB m' l) ys m' k'
        rw [(hm l (NL.ref _ _ _ _)).trans hb]
        exact ⟨h1, h2, h3, h4, h5, hk'⟩
      | _ => exact hk.elim
  · exact DM.and _ (DM.and _ (DM.put d _ fun m' h => by rw [newVer_like h]; exact ⟨rfl, rfl⟩))

theorem DM.mono {α : Type} {F : Mem → (α → Mem → Prop) → Prop} {R R' : Nat → Prop} {m : Mem} (h : DM F R m) (hr : ∀ l, R l → R' l) : DM F R' m := fun k hk =>
  have ⟨x, new, h1, h2⟩ := h k hk
  ⟨x, new, h1, fun m' hm hm' k' hk' => h2 m' (fun l hl => hm l (hr l hl)) hm' k' hk'⟩

theorem DM.app (ti : TI) (d : Nat) (x y : AV) (m : Mem) : DM (sApp ti d x y) (fun l => NL x l ∨ NL y l) m :=
  DM.and _ (DM.and _ (DM.and _ (DM.pre (G := sSrc ti.sh y) (F := fun ys m k => isFlatL ys = true ∧ sApp1 ti d x ys m k) (D1.src _ _ _) (fun m' hm => like_src _ fun l hl => hm l (.inr hl)) fun ys =>
    DM.and _ ((DM.app1 ti d x ys m).mono fun l hl => .inl hl))))
theorem DM.matL (l : Nat) (x : AV) (m : Mem) : DM (sMatL l x) (fun _ => False) m := by
  unfold sMatL
  split
  · exact DM.put l _ fun m' h => by rw [newVer_like h]; exact ⟨rfl, rfl⟩
  · exact DM.ret _
theorem DM.mats : ∀ (xs : List AV) (l : Nat) (acc : List AV) (m : Mem), DM (fun m k => sMats k l acc m xs) (fun _ => False) m
  | [], l, acc, m => DM.ret acc.reverse
  | x :: r, l, acc, m => DM.bind (rest := fun y m k => sMats k (l + 1) (y :: acc) m r) (DM.matL l x m) fun y new => DM.mats r (l + 1) (y :: acc) (new ++ m)
theorem DM.matA (l : Nat) (x : AV) (m : Mem) : DM (sMatA l x) (fun _ => False) m := by
  unfold sMatA
  split
  · rename_i xs
    exact DM.bind (one := fun m k => sMats k l [] m xs) (rest := fun ys m k => k (AV.agg ys) m) (DM.mats xs l [] m) fun ys new => DM.ret (AV.agg ys)
  · exact DM.no _ _
  · exact DM.matL l _ m
theorem DM.matTs : ∀ (xs : List AV) (l : Nat) (acc : List AV) (m : Mem), DM (fun m k => sMatTs k l acc m xs) (fun _ => False) m
  | [], l, acc, m => DM.ret acc.reverse
  | x :: r, l, acc, m => DM.bind (rest := fun y m k => sMatTs k (l + 16) (y :: acc) m r) (DM.matA l x m) fun y new => DM.matTs r (l + 16) (y :: acc) (new ++ m)
theorem DM.mat (l : Nat) (x : AV) (m : Mem) : DM (sMat l x) (fun _ => False) m := by
  unfold sMat
  split
  · rename_i xs
    exact DM.bind (one := fun m k => sMatTs k l [] m xs) (rest := fun ys m k => k (AV.tup ys) m) (DM.matTs xs l [] m) fun ys new => DM.ret (AV.tup ys)
  · exact DM.matA l _ m

end Go.Vc


set_option linter.unusedVariables false
set_option linter.unusedSimpArgs false
set_option linter.unnecessarySimpa false
namespace Go.Vc

def sCallMX (P : Program) (f : FuncId) (d : Nat) (ρ : List Nat) (io : List Blk) (args : List AV) (m : Mem) (k : AV → Mem → Prop) (_ : Pack k) : Prop :=
  ∃ r io1, FnM P f io args (fun x io' => x = r ∧ io' = io1) ∧ sMat (1000 * (d + 1)) r (putIo ρ io1 m) k
@[congr] theorem sCallMX_congr {P : Program} {f : FuncId} {d : Nat} {ρ : List Nat} {io io' : List Blk} {args args' : List AV} {m : Mem} {k : AV → Mem → Prop} {q : Pack k} (h : io = io') (h' : args = args') : sCallMX P f d ρ io args m k q = sCallMX P f d ρ io' args' m k q := by rw [h, h']
theorem sCallMX_one {P : Program} {f : FuncId} {d : Nat} {ρ : List Nat} {io io1 : List Blk} {args : List AV} {m : Mem} {k : AV → Mem → Prop} {r : AV} (h : FnM P f io args (fun x io' => x = r ∧ io' = io1)) (hk : sMat (1000 * (d + 1)) r (putIo ρ io1 m) k) {q : Pack k} : sCallMX P f d ρ io args m k q :=
  ⟨r, io1, h, hk⟩
def sCallXio (P : Program) (f : FuncId) (xs : List AV) (m : Mem) (k : AV → Mem → Prop) : Prop :=
  ∃ r new, k r (new ++ m) ∧ ∀ m', Like (fun l => ∃ x, x ∈ xs ∧ NL x l) m m' → Like (fun l => lookB new l ≠ none) m m' → ∀ k', k' r (new ++ m') → sCallIo P f xs m' k'
def sCallX (P : Program) (f : FuncId) (d : Nat) (xs ts : List AV) (m : Mem) (k : AV → Mem → Prop) (_ : Pack k) : Prop := (∃ own r, Fn P f ts own (· = r) ∧ (own = false → noLabs xs) ∧ sRes own d m r k) ∨
  (∃ ρ, (∀ l, l ∈ ρ → ∃ x, x ∈ xs ∧ NL x l) ∧ sSel m (fun io => sRens ρ (fun args => sCallMX P f d ρ io args m k ⟨⟩) [] xs) [] ρ) ∨ sCallXio P f xs m k
@[congr] theorem sCallX_congr {P : Program} {f : FuncId} {d : Nat} {xs ts ts' : List AV} {m : Mem} {k : AV → Mem → Prop} {q : Pack k} (h : ts = ts') : sCallX P f d xs ts m k q = sCallX P f d xs ts' m k q := by rw [h]
theorem sCallX_one {P : Program} {f : FuncId} {d : Nat} {xs ts : List AV} {m : Mem} {k : AV → Mem → Prop} {r : AV} (h : Fn P f ts true (· = r)) (hk : sMat (1000 * (d + 1)) r m k) {q : Pack k} : sCallX P f d xs ts m k q :=
  .inl ⟨true, r, h, fun h => (by cases h), hk⟩
theorem sCallXS_one {P : Program} {f : FuncId} {d : Nat} {xs ts : List AV} {m : Mem} {k : AV → Mem → Prop} {r : AV} (h : Fn P f ts false (· = r)) (hl : noLabs xs) (hk : k r m) {q : Pack k} : sCallX P f d xs ts m k q :=
  .inl ⟨false, r, h, fun _ => hl, hk⟩
theorem sCallX_io {P : Program} {f : FuncId} {d : Nat} {xs ts : List AV} {m : Mem} {k : AV → Mem → Prop} {q : Pack k} (ρ : List Nat) (hρ : (ρ.all fun l => (labsL xs).any fun p => p.1 == l) = true) (h : sSel m (fun io => sRens ρ (fun args => sCallMX P f d ρ io args m k ⟨⟩) [] xs) [] ρ) : sCallX P f d xs ts m k q := by
  refine .inr (.inl ⟨ρ, fun l hl => ?_, h⟩)
  rw [List.all_eq_true] at hρ
  obtain ⟨p, hp, he⟩ := List.any_eq_true.1 (hρ l hl)
  obtain ⟨i, hi, hpi⟩ := of_mem_labsL hp
  rw [beq_iff_eq] at he
  subst he
  exact ⟨xs[i], List.getElem_mem hi, p.2, hpi⟩
def sCallD (P : Program) (f : FuncId) (d : Nat) (xs : List AV) (m : Mem) (k : AV → Mem → Prop) : Prop := sTrees m (fun ts => sCallX P f d xs ts m k ⟨⟩) [] xs
@[congr] theorem sCallD_congr {P : Program} {f : FuncId} {d : Nat} {xs xs' : List AV} {m : Mem} {k : AV → Mem → Prop} (h : xs = xs') : sCallD P f d xs m k = sCallD P f d xs' m k := by rw [h]
theorem sCallD_eq (P : Program) (f : FuncId) (d : Nat) (x : AV) (xs : List AV) (m : Mem) (k : AV → Mem → Prop) : sCallD P f d (x :: xs) m k = sTrees m (fun ts => sCallX P f d (x :: xs) ts m k ⟨⟩) [] (x :: xs) := rfl
theorem D1.leafT (m : Mem) (x : AV) : D1 (sLeafT m x) := by
  unfold sLeafT
  split <;> first
    | exact D1.pure _
    | exact D1.no
    | (unfold sRowT; split <;> first | exact D1.and _ (D1.and _ (D1.pure _)) | exact D1.no)
theorem D1.convX (P : Program) (si ti : TI) (m : Mem) (x : AV) : D1 (sConvX P si ti x m) := by
  unfold sConvX
  split
  · exact D1.bind (D1.ti _) fun ei => D1.isU8 _ (D1.bind (D1.leafT m x) fun y => D1.bytes y)
  · exact D1.chr _
  · exact D1.conv _ _
theorem like_convX {P : Program} {si ti : TI} {m m' : Mem} {x : AV} (h : Like (NL x) m m') : sConvX P si ti x m' = sConvX P si ti x m := by
  funext k
  unfold sConvX
  simp only [like_leafT h]
theorem D1.leavesT (m : Mem) : ∀ (xs acc : List AV), D1 fun k => sLeavesT m k acc xs
  | [], acc => D1.pure acc.reverse
  | x :: r, acc => D1.bind (H := fun y k => sLeavesT m k (y :: acc) r) (D1.leafT m x) fun y => D1.leavesT m r (y :: acc)
theorem D1.tree (m : Mem) (x : AV) : D1 (sTree m x) := by
  unfold sTree
  split
  · rename_i xs
    exact D1.bind (G := fun k => sLeavesT m k [] xs) (H := fun ys k => k (AV.agg ys)) (D1.leavesT m xs []) fun ys => D1.pure (AV.agg ys)
  · exact D1.pure _
  · exact D1.pure _
  · exact D1.leafT m _
theorem D1.trees (m : Mem) : ∀ (xs acc : List AV), D1 fun k => sTrees m k acc xs
  | [], acc => D1.pure acc.reverse
  | x :: r, acc => D1.bind (H := fun y k => sTrees m k (y :: acc) r) (D1.tree m x) fun y => D1.trees m r (y :: acc)

theorem DM.res (own : Bool) (d : Nat) (r : AV) (m : Mem) : DM (fun m k => sRes own d m r k) (fun _ => False) m := by
  cases own with
  | true => exact DM.mat _ r m
  | false => exact DM.ret r
theorem D1.sel1 {α : Type} (b : Option Blk) {G : Blk → (α → Prop) → Prop} (h : ∀ b, D1 (G b)) : D1 fun k => sSel1 b fun b => G b k := by
  unfold sSel1
  split <;> first | exact h _ | exact D1.and _ (h _) | exact D1.no
theorem D1.sel (m : Mem) : ∀ (ρ : List Nat) (acc : List Blk), D1 fun k => sSel m k acc ρ
  | [], acc => D1.pure acc.reverse
  | l :: r, acc => D1.and _ (D1.sel1 (lookB m l) (G := fun b k => sSel m k (b :: acc) r) fun b => D1.sel m r (b :: acc))
theorem like_sel {m m' : Mem} (k : List Blk → Prop) : ∀ (ρ : List Nat) (acc : List Blk), (∀ l, l ∈ ρ → lookB m' l = lookB m l) → sSel m' k acc ρ = sSel m k acc ρ
  | [], acc, _ => rfl
  | l :: r, acc, h => by
    rw [sSel_cons, sSel_cons, h l (List.mem_cons_self ..)]
    have : (fun b => sSel m' k (b :: acc) r) = fun b => sSel m k (b :: acc) r := funext fun b => like_sel k r (b :: acc) fun l' hl => h l' (List.mem_cons_of_mem _ hl)
    rw [this]
theorem D1.pos (l : Nat) : ∀ (ρ : List Nat) (i : Nat), D1 fun k => sPos l k i ρ
  | [], _ => D1.no
  | l0 :: r, i => by
    have h1 := D1.pos l r (i + 1)
    intro k hk
    have hk : sPos l k i (l0 :: r) := hk
    rw [sPos_cons] at hk
    split at hk
    · rename_i e
      exact ⟨i, hk, fun k' h' => by show sPos l k' i (l0 :: r); rw [sPos_cons, if_pos e]; exact h'⟩
    · rename_i e
      obtain ⟨x, h2, h3⟩ := h1 k hk
      exact ⟨x, h2, fun k' h' => by show sPos l k' i (l0 :: r); rw [sPos_cons, if_neg e]; exact h3 k' h'⟩
theorem D1.ren (ρ : List Nat) (x : AV) : D1 (sRen ρ x) := by
  unfold sRen
  split <;> first
    | exact D1.pure _
    | exact D1.no
    | exact D1.bind (H := fun j k => k _) (D1.pos _ ρ 0) fun j => D1.pure _
theorem D1.renL (ρ : List Nat) : ∀ (xs acc : List AV), D1 fun k => sRenL ρ k acc xs
  | [], acc => D1.pure acc.reverse
  | x :: r, acc => D1.bind (H := fun y k => sRenL ρ k (y :: acc) r) (D1.ren ρ x) fun y => D1.renL ρ r (y :: acc)
theorem D1.renA (ρ : List Nat) (x : AV) : D1 (sRenA ρ x) := by
  unfold sRenA
  split
  · rename_i xs
    exact D1.bind (G := fun k => sRenL ρ k [] xs) (H := fun ys k => k (AV.agg ys)) (D1.renL ρ xs []) fun ys => D1.pure (AV.agg ys)
  · exact D1.ren ρ _
theorem D1.rens (ρ : List Nat) : ∀ (xs acc : List AV), D1 fun k => sRens ρ k acc xs
  | [], acc => D1.pure acc.reverse
  | x :: r, acc => D1.bind (H := fun y k => sRens ρ k (y :: acc) r) (D1.renA ρ x) fun y => D1.rens ρ r (y :: acc)
theorem putIo_app : ∀ (ρ : List Nat) (io : List Blk) (m : Mem), putIo ρ io m = putIo ρ io [] ++ m
  | [], io, m => by cases io <;> rfl
  | _ :: _, [], m => rfl
  | l :: ρ, b :: io, m => by rw [putIo_cons, putIo_cons, putIo_app ρ io m, List.cons_append]
theorem DM.callX (P : Program) (f : FuncId) (d : Nat) (xs ts : List AV) (m : Mem) : DM (fun m k => sCallX P f d xs ts m k ⟨⟩) (fun l => ∃ x, x ∈ xs ∧ NL x l) m := by
  rintro k (⟨own, r, h1, h2, h3⟩ | ⟨ρ, hρ, h⟩ | ⟨r, new, h1, h2⟩)
  rotate_left 2
  · exact ⟨r, new, h1, fun m' a b k' hk' => .inr (.inr ⟨r, new, hk', fun m2 c d k2 hk2 => h2 m2 (fun l hl => (c l hl).trans (a l hl)) (fun l hl => (d l hl).trans (b l hl)) k2 hk2⟩)⟩
  · obtain ⟨x, new, g1, g2⟩ := DM.res own d r m k h3
    exact ⟨x, new, g1, fun m' _ hm' k' hk' => .inl ⟨own, r, h1, h2, g2 m' (fun _ hl => hl.elim) hm' k' hk'⟩⟩
  obtain ⟨io, h1, h2⟩ := D1.sel m ρ [] _ h
  obtain ⟨args, h3, h4⟩ := D1.rens ρ xs [] _ h1
  obtain ⟨r, io1, hF, hm⟩ := h3
  obtain ⟨x, new, g1, g2⟩ := DM.mat _ r (putIo ρ io1 m) k hm
  refine ⟨x, new ++ putIo ρ io1 [], by rw [List.append_assoc, ← putIo_app]; exact g1, fun m' hm1 hm' k' hk' => .inr (.inl ⟨ρ, hρ, ?_⟩)⟩
  rw [like_sel _ ρ [] fun l hl => hm1 l (hρ l hl)]
  refine h2 _ (h4 _ ⟨r, io1, hF, g2 (putIo ρ io1 m') (fun _ hl => hl.elim) (fun l hl => ?_) k' (by rw [putIo_app ρ io1 m', ← List.append_assoc]; exact hk')⟩)
  have hl : lookB new l ≠ none := hl
  rw [putIo_app ρ io1 m', putIo_app ρ io1 m, lookB_append, lookB_append]
  have := hm' l (by show lookB (new ++ putIo ρ io1 []) l ≠ none; rw [lookB_append]; split <;> simp_all)
  rw [this]
theorem DM.callD (P : Program) (f : FuncId) (d : Nat) (xs : List AV) (m : Mem) : DM (sCallD P f d xs) (fun l => ∃ x, x ∈ xs ∧ NL x l) m :=
  DM.pre (G := fun m k => sTrees m k [] xs) (F := fun ts m k => sCallX P f d xs ts m k ⟨⟩) (D1.trees m xs []) (fun m' hm => funext fun k => like_trees k xs [] fun x hx l hl => hm l ⟨x, hx, hl⟩) fun ts => DM.callX P f d xs ts m

theorem sBinS_mono {P : Program} {t : TypeId} {op : BinOp} {a b : AV} {k : AV → Prop} {r r' : Prop} (hr : r → r') (h : sBinS P t op a b k r) : sBinS P t op a b k r' := by
  unfold sBinS at h ⊢
  split at h
  · exact h
  · exact h
  · exact hr h
theorem D1.cellE (f : FK) (x y : AV) : D1 (sCellE f x y) := by
  unfold sCellE; split <;> first | exact D1.and _ (D1.pure _) | exact D1.pure _ | exact D1.no
theorem D1.aggE : ∀ (fs : List FK) (xs ys : List AV) (acc : Bool), D1 fun k => sAggE k acc fs xs ys
  | [], xs, ys, acc => by cases xs <;> cases ys <;> first | exact D1.pure _ | exact D1.no
  | f :: fs, xs, ys, acc => by
    cases xs with
    | nil => cases ys <;> exact D1.no
    | cons x xs =>
      cases ys with
      | nil => exact D1.no
      | cons y ys => exact D1.bind (D1.cellE f x y) fun b => D1.aggE fs xs ys _
theorem D1.eqR (op : BinOp) (c : Bool) : D1 (sEqR op c) := by
  unfold sEqR; split <;> first | exact D1.pure _ | exact D1.no
theorem D1.fk (o : Option (List FK)) : D1 (sFK o) := by
  cases o with
  | none => exact D1.no
  | some x => exact D1.pure x
theorem D1.binS (P : Program) (t : TypeId) (op : BinOp) (kd : TK) (a b : AV) : D1 fun k => sBinS P t op a b k (sBin op kd a b k) := by
  unfold sBinS
  split
  · exact D1.bind (D1.fk _) fun ks => D1.bind (D1.aggE ks _ _ true) fun c => D1.eqR op c
  · cases fnRes P t op with
    | none => exact D1.no
    | some c => exact D1.pure _
  · exact D1.bin _ _ _ _
def sCallDV (P : Program) (c : AV) (d : Nat) (xs : List AV) (m : Mem) (k : AV → Mem → Prop) : Prop := match c with
  | .clo f ys => sCallD P f d (xs ++ ys) m k
  | _ => False
@[congr] theorem sCallDV_congr {P : Program} {c c' : AV} {d : Nat} {xs xs' : List AV} {m : Mem} {k : AV → Mem → Prop} (h : c = c') (h' : xs = xs') : sCallDV P c d xs m k = sCallDV P c' d xs' m k := by rw [h, h']
theorem sCallDV_clo (P : Program) (f : FuncId) (ys : List AV) (d : Nat) (xs : List AV) (m : Mem) (k : AV → Mem → Prop) : sCallDV P (.clo f ys) d xs m k = sCallD P f d (xs ++ ys) m k := rfl
theorem DM.callDV (P : Program) (c : AV) (d : Nat) (xs : List AV) (m : Mem) : DM (sCallDV P c d xs) (fun l => (∃ x, x ∈ xs ∧ NL x l) ∨ NL c l) m := by
  cases c with
  | clo f ys =>
    refine (DM.callD P f d (xs ++ ys) m).mono fun l hl => ?_
    obtain ⟨x, hx, ver, hv⟩ := hl
    rcases List.mem_append.1 hx with hx | hx
    · exact .inl ⟨x, hx, ver, hv⟩
    · obtain ⟨i, hi, rfl⟩ := List.getElem_of_mem hx
      exact .inr ⟨ver, by simp only [labs]; exact mem_labsL hi hv⟩
  | _ => exact DM.no _ _
def sOpD (P : Program) (d : Nat) (op : Op) (ts : Env) (m : Mem) (k : AV → Mem → Prop) : Prop :=
  match op with
  | .call c => match c.callee, c.args.toList with
    | .value (.func f), xs => sCallD P f d (xs.map (ev ts)) m k
    | .value (.tmp t), xs => sCallDV P (look ts t) d (xs.map (ev ts)) m k
    | .builtin .append, [x, y] => sAppTX P c.argTypes.toList d (ev ts x) (ev ts y) m k
    | _, _ => sOp P d (.call c) ts m k
  | .binOp op t x y _ => sTI (tiOf P t) fun ti => sBinS P t op (ev ts x) (ev ts y) (fun v => k v m) (sBin op ti.kind (ev ts x) (ev ts y) fun v => k v m)
  | .load t x => sTI (tiOf P t) fun ti => sLoad ti.agg ti.size (ev ts x) m k
  | .store t p y => sTI (tiOf P t) fun ti => sStore ti.size (ev ts p) (ev ts y) m fun m' => k .undef m'
  | .indexAddr t x i => sTI (tiOf P t) fun tt => sSl tt.kind (sTI (tiOf P tt.elem) fun ti => sIdx ti.sh m (ev ts x) (ev ts i) fun v => k v m)
  | op => sOp P d op ts m k

theorem sPart_mono {ag : Bool} {n j : Nat} {x : AV} {k k' : AV → Prop} (h : ∀ y, k y → k' y) (hk : sPart ag n j x k) : sPart ag n j x k' := by
  obtain ⟨y, h1, h2⟩ := D1.part _ _ _ _ _ hk
  exact h2 _ (h y h1)
theorem sLoadX_of {ag : Bool} {n : Nat} {p : AV} {m : Mem} {k : AV → Mem → Prop} (h : sLoad ag n p m k) : sLoadX ag n p m k := by
  cases p with
  | ptr l ver i j =>
    have h0 : sLoadB ag n l ver i j (lookB m l) m k := h
    show if l < ioL then sLoadB ag n l ver i j (lookB m l) m k else sLoadI ag n l ver i j (lookB m l) m k
    split
    · exact h0
    · rename_i hl
      generalize lookB m l = b at h0
      unfold sLoadI
      split
      · obtain ⟨h1, h2⟩ := h0
        refine ⟨h1, ?_⟩
        rename_i xs
        cases hx : xs[i]? with
        | none => rw [hx] at h2; exact h2.elim
        | some x =>
          rw [hx] at h2
          rw [sOpt_some] at h2 ⊢
          refine sPart_mono (fun y hy => ?_) h2
          unfold sUndeep at hy
          unfold sLend
          split
          · rename_i hc; rw [if_pos hc] at hy; exact absurd hy.1 hl
          · rename_i hc; rw [if_neg hc] at hy; exact hy
      · exact h0
  | eptr => exact h
  | _ => exact h.elim
theorem sStoreX_of {n : Nat} {p y : AV} {m : Mem} {k : Mem → Prop} (h : sStore n p y m k) : sStoreX n p y m k := by
  unfold sStoreX
  split
  · rename_i l ver i j l2 v2 i2 n2
    have h : sStoreB l ver i j (lookB m l) (.ref l2 v2 i2 n2) m n k := h
    unfold sStoreR
    split
    · rename_i v xs hb
      rw [hb] at h
      have := h.2.1
      cases this
    · exact h
  · exact h
theorem sCall_of_D {P : Program} {f : FuncId} {d : Nat} {xs : List AV} {m : Mem} {k : AV → Mem → Prop} (h : sCallD P f d xs m k) : sCall P f d xs m k := by
  have key : ∀ (xs acc : List AV) (G G' : List AV → Prop), (∀ ts, G ts → G' ts) → sTrees m G acc xs → sTrees m G' acc xs := by
    intro xs acc G G' hg h
    obtain ⟨x, h1, h2⟩ := D1.trees m xs acc G h
    exact h2 G' (hg x h1)
  exact key _ _ _ _ (fun ts hx => by
    rcases hx with ⟨own, r, h1, h2, h3⟩ | ⟨ρ, _, h⟩ | ⟨r, new, h1, h2⟩
    rotate_left 2
    · exact .inl (h2 m (fun _ _ => rfl) (fun _ _ => rfl) k h1)
    · exact .inr ⟨own, _, h1, h2, fun _ e => e ▸ h3⟩
    · refine sCallT_io ρ ?_
      obtain ⟨io, h1, h2⟩ := D1.sel m ρ [] _ h
      obtain ⟨args, h3, h4⟩ := D1.rens ρ _ [] _ h1
      obtain ⟨r, io1, hF, hm⟩ := h3
      exact h2 _ (h4 _ ⟨_, hF, fun r io' ⟨e, e'⟩ => by subst e; subst e'; exact hm⟩)) h
theorem sCallV_of_D {P : Program} {c : AV} {d : Nat} {xs : List AV} {m : Mem} {k : AV → Mem → Prop} (h : sCallDV P c d xs m k) : sCallV P c d xs m k := by
  cases c with
  | clo f ys => exact sCall_of_D h
  | _ => exact h.elim
theorem sOp_of_D {P : Program} {d : Nat} {op : Op} {ts : Env} {m : Mem} {k : AV → Mem → Prop} (h : sOpD P d op ts m k) : sOp P d op ts m k := by
  unfold sOpD at h
  split at h
  · rename_i c
    split at h
    · rename_i f hc
      have := sCall_of_D h
      unfold sOp
      simp only [hc]
      exact this
    · rename_i t hc
      have := sCallV_of_D h
      unfold sOp
      simp only [hc]
      exact this
    · rename_i x y hc hx
      have := h
      unfold sOp
      simp only [hc, hx]
      exact this
    · exact h
  · obtain ⟨ti, ht, h⟩ := sTI_out h
    show sTI _ _
    rw [ht]
    exact sBinS_mono (fun h => sBinN_of h) h
  · obtain ⟨ti, ht, h⟩ := sTI_out h
    show sTI _ _
    rw [ht]
    exact sLoadX_of h
  · obtain ⟨ti, ht, h⟩ := sTI_out h
    show sTI _ _
    rw [ht]
    exact sStoreY_of (sStoreX_of h)
  · obtain ⟨tt, htt, h⟩ := sTI_out h
    obtain ⟨hks, h⟩ := sSl_out h
    obtain ⟨ti, ht, h⟩ := sTI_out h
    show sTI _ _
    rw [htt, sTI_some, hks]
    show sTI _ _
    rw [ht]
    exact sIdxX_of h
  · exact h

def rdO (op : Op) : List Operand := match op with
  | .move _ => []
  | .assign _ => []
  | .pick _ _ _ => []
  | .box _ _ => []
  | .build _ _ => []
  | .binOp _ _ _ _ _ => []
  | .extract _ _ => []
  | .field _ _ _ => []
  | .store _ p _ => [p]
  | op => op.operands.toList
theorem rdO_sub {op : Op} {o : Operand} (h : o ∈ rdO op) : o ∈ op.operands.toList := by
  unfold rdO at h
  split at h <;> first
    | exact h
    | exact absurd h List.not_mem_nil
    | (rw [List.mem_singleton] at h; subst h; simp [Op.operands])
def Reads (op : Op) (ts : Env) (l : Nat) : Prop := ∃ o, o ∈ rdO op ∧ NL (ev ts o) l

theorem DM.sl {F : Mem → (AV → Mem → Prop) → Prop} {R : Nat → Prop} {m : Mem} (kd : TK) (h : DM F R m) : DM (fun m k => sSl kd (F m k)) R m := by
  cases kd <;> first | exact h | exact DM.no _ _
theorem DM.st {F : Mem → (AV → Mem → Prop) → Prop} {R : Nat → Prop} {m : Mem} (kd : TK) (h : DM F R m) : DM (fun m k => sSt kd (F m k)) R m := by
  cases kd <;> first | exact h | exact DM.no _ _
theorem DM.ti {F : TI → Mem → (AV → Mem → Prop) → Prop} {R : Nat → Prop} {m : Mem} (o : Option TI) (h : ∀ ti, DM (F ti) R m) : DM (fun m k => sTI o fun ti => F ti m k) R m := DM.pre' (D1.ti o) h

theorem DM.convB {R : Nat → Prop} (d : Nat) (x : AV) (m : Mem) : DM (sConvB d x) R m := by
  unfold sConvB
  split
  · exact DM.and _ (DM.put d _ fun m' h => by rw [newVer_like h]; exact ⟨rfl, rfl⟩)
  · exact DM.no _ _
theorem DM.convY {R : Nat → Prop} (P : Program) (si ti : TI) (d : Nat) (x : AV) (m : Mem) (h : ∀ m', Like R m m' → sConvX P si ti x m' = sConvX P si ti x m) : DM (sConvY P si ti d x) R m := by
  unfold sConvY
  split
  · refine DM.ti _ fun ei => ?_
    unfold isU8
    split
    · exact DM.convB d x m
    · exact DM.no _ _
  · exact DM.still (G := fun m k => sConvX P si ti x m k) (D1.convX P si ti m _) fun m' hm => h m' hm
theorem DM.or {α : Type} {F G : Mem → (α → Mem → Prop) → Prop} {R : Nat → Prop} {m : Mem} (h : DM F R m) (h' : DM G R m) : DM (fun m k => F m k ∨ G m k) R m := fun k hk => by
  rcases hk with hk | hk
  · obtain ⟨x, new, h1, h2⟩ := h k hk
    exact ⟨x, new, h1, fun m' a b k' hk' => .inl (h2 m' a b k' hk')⟩
  · obtain ⟨x, new, h1, h2⟩ := h' k hk
    exact ⟨x, new, h1, fun m' a b k' hk' => .inr (h2 m' a b k' hk')⟩
theorem DM.appS (ti : TI) (d : Nat) (x : AV) (ys : List AV) (m : Mem) : DM (sAppS ti d x ys) (NL x) m := by
  unfold sAppS
  split
  · rename_i l v i n
    intro k hk
    cases hb : lookB m l with
    | none => simp only [hb] at hk; exact hk.elim
    | some b =>
      simp only [hb] at hk
      cases b with
      | row v' sh deep xs =>
        obtain ⟨h1, h2, h3, h4, h5, h6, hk⟩ := hk
        refine ⟨.ref l (v + 1) 0 (n + ys.length), [(l, .row (v + 1) ti.sh false (xs.take n ++ ys))], hk, fun m' hm _ k' hk' => ?_⟩
        show sAppSB ti l v i n (lookB m' l) ys m' k'
        rw [(hm l (NL.ref _ _ _ _)).trans hb]
        exact ⟨h1, h2, h3, h4, h5, h6, hk'⟩
      | _ => exact hk.elim
  · exact DM.and _ (DM.and _ (DM.put d _ fun m' h => by rw [newVer_like h]; exact ⟨rfl, rfl⟩))
theorem DM.appX (ti : TI) (d : Nat) (x y : AV) (m : Mem) : DM (sAppX ti d x y) (fun l => NL x l ∨ NL y l) m := by
  cases y with
  | ref l v i n =>
    intro k hk
    have hk1 : sAppXB ti d x l v i n (lookB m l) m k := hk
    have go : ∀ m', Like (fun l' => NL x l' ∨ NL (.ref l v i n) l') m m' → lookB m' l = lookB m l := fun m' hm => hm l (.inr (NL.ref _ _ _ _))
    unfold sAppXB at hk1
    split at hk1
    · rename_i v' sh' zs hb
      obtain ⟨z, new, h1, h2⟩ := DM.or (DM.app ti d x (.ref l v i n) m) (DM.and (v' = v) (DM.and (sh' = ti.sh) (DM.and (i + n ≤ zs.length) (DM.and (ti.bytes ≤ 65536 ∧ 0 < ti.size ∧ fits ti.sh ti.zero) ((DM.appS ti d x ((zs.drop i).take n) m).mono fun l hl => .inl hl))))) k hk1
      refine ⟨z, new, h1, fun m' a b k' hk' => ?_⟩
      show sAppXB ti d x l v i n (lookB m' l) m' k'
      rw [go m' a, hb]
      exact h2 m' a b k' hk'
    · rename_i hb
      obtain ⟨z, new, h1, h2⟩ := DM.app ti d x (.ref l v i n) m k hk1
      refine ⟨z, new, h1, fun m' a b k' hk' => ?_⟩
      show sAppXB ti d x l v i n (lookB m' l) m' k'
      rw [go m' a]
      have := h2 m' a b k' hk'
      unfold sAppXB
      split
      · rename_i hb2; exact absurd hb2 (hb _ _ _)
      · exact this
  | arr sh xs =>
    cases hb : isFlatL xs with
    | true =>
      have e : sAppX ti d x (.arr sh xs) = sApp ti d x (.arr sh xs) := by funext m k; show sAppZ ti d x sh xs (isFlatL xs) m k = _; rw [hb]; rfl
      rw [e]; exact DM.app ti d x _ m
    | false =>
      have e : sAppX ti d x (.arr sh xs) = fun m k => sh = ti.sh ∧ (ti.bytes ≤ 65536 ∧ 0 < ti.size ∧ fits ti.sh ti.zero) ∧ sAppS ti d x xs m k := by funext m k; show sAppZ ti d x sh xs (isFlatL xs) m k = _; rw [hb]; rfl
      rw [e]; exact DM.and _ (DM.and _ ((DM.appS ti d x xs m).mono fun l hl => .inl hl))
  | _ => exact DM.app ti d x _ m
theorem DM.appTX (P : Program) (tys : List TypeId) (d : Nat) (x y : AV) (m : Mem) : DM (sAppTX P tys d x y) (fun l => NL x l ∨ NL y l) m := by
  unfold sAppTX
  split
  · refine DM.pre' (F := fun tt m k => sSl tt.kind (sTI (tiOf P _) fun tt' => sSl tt'.kind (sTI (tiOf P tt.elem) fun ti => sAppX ti d x y m k))) (D1.ti _) fun tt => ?_
    have hsl : ∀ (kd : TK) {F : Mem → (AV → Mem → Prop) → Prop} {R : Nat → Prop}, DM F R m → DM (fun m k => sSl kd (F m k)) R m := by
      intro kd F R h
      cases kd <;> first | exact h | exact DM.no _ _
    refine hsl _ (DM.pre' (F := fun tt' m k => sSl tt'.kind (sTI (tiOf P tt.elem) fun ti => sAppX ti d x y m k)) (D1.ti _) fun tt' => ?_)
    exact hsl _ (DM.pre' (F := fun ti m k => sAppX ti d x y m k) (D1.ti _) fun ti => DM.appX ti d x y m)
  · exact DM.no _ _
theorem DM.givL {R : Nat → Prop} (x : AV) (m : Mem) (hR : ∀ l, NL x l → R l) : DM (sGivL x) R m := by
  unfold sGivL
  split
  · rename_i l v i n
    intro k hk
    cases hb : lookB m l with
    | none => rw [hb] at hk; exact hk.elim
    | some b =>
      rw [hb] at hk
      cases b with
      | row v' sh d ys =>
        obtain ⟨h1, h2, h3, h4⟩ := hk
        refine ⟨.arr sh ((ys.drop i).take n), [(l, .gone v)], h4, fun m' hm _ k' hk' => ?_⟩
        show sGivB l v i n (lookB m' l) m' k'
        rw [hm l (hR l (NL.ref _ _ _ _)), hb]
        exact ⟨h1, h2, h3, hk'⟩
      | _ => exact hk.elim
  · exact DM.ret _
theorem DM.map {α β : Type} {F : Mem → (α → Mem → Prop) → Prop} {R : Nat → Prop} {m : Mem} (f : α → β) (h : DM F R m) : DM (fun m k => F m fun x m' => k (f x) m') R m := fun k hk =>
  have ⟨x, new, h1, h2⟩ := h _ hk
  ⟨f x, new, h1, fun m' hm hm' k' hk' => h2 m' hm hm' _ hk'⟩
theorem DM.givLs {R : Nat → Prop} : ∀ (xs acc : List AV) (m : Mem), (∀ x, x ∈ xs → ∀ l, NL x l → R l) → DM (fun m k => sGivLs k acc m xs) R m
  | [], acc, m, _ => DM.ret acc.reverse
  | x :: r, acc, m, hR => DM.bind (one := sGivL x) (rest := fun y m k => sGivLs k (y :: acc) m r) (DM.givL x m (hR x (List.mem_cons_self ..))) fun y new => DM.givLs r (y :: acc) (new ++ m) fun x hx => hR x (List.mem_cons_of_mem _ hx)
theorem DM.givA {R : Nat → Prop} (x : AV) (m : Mem) (hR : ∀ l, NL x l → R l) : DM (sGivA x) R m := by
  cases x with
  | agg xs => exact DM.map AV.agg (DM.givLs xs [] m fun x hx l ⟨ver, hl⟩ => hR l ⟨ver, by
      obtain ⟨i, hi, rfl⟩ := List.getElem_of_mem hx
      simp only [labs]; exact mem_labsL hi hl⟩)
  | _ => exact DM.givL _ m hR
theorem DM.givs {R : Nat → Prop} : ∀ (ps acc : List (Nat × AV)) (m : Mem), (∀ p, p ∈ ps → ∀ l, NL p.2 l → R l) → DM (fun m k => sGivs k acc m ps) R m
  | [], acc, m, _ => DM.ret acc.reverse
  | (i, x) :: r, acc, m, hR => DM.bind (one := sGivA x) (rest := fun y m k => sGivs k ((i, y) :: acc) m r) (DM.givA x m (hR (i, x) (List.mem_cons_self ..))) fun y new => DM.givs r ((i, y) :: acc) (new ++ m) fun p hp => hR p (List.mem_cons_of_mem _ hp)
theorem DM.buildSliceX {R : Nat → Prop} (ti : TI) (d n : Nat) (ps : List (Nat × AV)) (m : Mem) (hR : ∀ p, p ∈ ps → ∀ l, NL p.2 l → R l) : DM (sBuildSliceX ti d n ps) R m :=
  DM.bind (one := fun m k => sGivs k [] m ps) (rest := fun ps m k => sBuildSlice ti d n ps m k) (DM.givs ps [] m hR) fun ps new => DM.buildSlice ti d n ps (new ++ m)
theorem sOpD_det (P : Program) (d : Nat) (op : Op) (ts : Env) (m : Mem) : DM (sOpD P d op ts) (Reads op ts) m := by
  have rd : ∀ (o : Operand), o ∈ rdO op → ∀ l, NL (ev ts o) l → Reads op ts l := fun o h l hl => ⟨o, h, hl⟩
  have lk : ∀ (o : Operand), o ∈ rdO op → ∀ m', Like (Reads op ts) m m' → Like (NL (ev ts o)) m m' := fun o h m' hm l hl => hm l (rd o h l hl)
  have nomem : ∀ {G : (AV → Prop) → Prop}, D1 G → DM (fun m k => G fun v => k v m) (Reads op ts) m := fun {G} h => DM.still (G := fun _ => G) h fun _ _ => rfl
  have other : (∀ t x i, op ≠ .indexAddr t x i) → (∀ c f, op = .call c → c.callee ≠ .value (.func f)) → (∀ c t, op = .call c → c.callee ≠ .value (.tmp t)) → (∀ o t x y t2, op ≠ .binOp o t x y t2) → (∀ t x, op ≠ .load t x) → (∀ t p y, op ≠ .store t p y) → (∀ c x y, op = .call c → c.callee = .builtin .append → c.args.toList = [x, y] → False) → DM (sOp P d op ts) (Reads op ts) m := by
    intro hni hno hnt hnb hnl hns hna
    cases op with
    | move x => exact DM.ret _
    | makeFunc fn first caps => cases fn <;> first | exact DM.and _ (DM.ret _) | exact DM.no _ _
    | assign x => exact DM.ret _
    | pick c a b => exact nomem (D1.pick _ _ _)
    | alloc t => exact DM.ti _ fun ti => DM.box d ti.zero m
    | box t x => exact DM.box d _ m
    | build t parts => exact DM.ti _ fun ti => DM.st _ (nomem (D1.build ti _))
    | buildSlice t n parts =>
      refine DM.ti _ fun tt => DM.sl _ (DM.ti _ fun ti => DM.buildSliceX ti d n _ m fun p hp l hl => ?_)
      obtain ⟨q, hq, rfl⟩ := List.mem_map.1 hp
      exact ⟨q.2, by show q.2 ∈ (Op.buildSlice t n parts).operands.toList; simp only [Op.operands, Array.toList_map]; exact List.mem_map.2 ⟨q, hq, rfl⟩, hl⟩
    | load t x => exact absurd rfl (hnl _ _)
    | store t p y => exact absurd rfl (hns _ _ _)
    | nilCheck x => exact DM.still (D1.nil m _) fun m' hm => like_nil (lk x (by simp [rdO, Op.operands]) m' hm)
    | binOp op t x y t2 => exact absurd rfl (hnb _ _ _ _ _)
    | unOp op t x => cases op <;> first | exact nomem (D1.not _) | exact nomem (D1.neg _) | exact DM.no _ _
    | convert s t x => exact DM.ti _ fun si => DM.ti _ fun ti => DM.convY P si ti d _ m fun m' hm => like_convX (lk x (by simp [rdO, Op.operands]) m' hm)
    | makeSlice t l c => exact DM.ti _ fun tt => DM.sl _ (DM.ti _ fun ti => DM.make ti d _ _ m)
    | fieldAddr t x f => exact DM.ti _ fun ti => DM.pre' (F := fun fd m k => 0 < fd.2.1 ∧ sField fd.1 m (ev ts x) fun v => k v m) (D1.fld _) fun fd => DM.and _ (DM.still (D1.field _ m _) fun m' hm => like_field _ (lk x (by simp [rdO, Op.operands]) m' hm))
    | field t x f => exact DM.ti _ fun ti => DM.pre' (F := fun fd m k => sPartA fd.2.2 fd.2.1 fd.1 (ev ts x) fun v => k v m) (D1.fld _) fun fd => nomem (D1.partA _ _ _ _)
    | indexAddr t x i => exact absurd rfl (hni _ _ _)
    | index t x i => exact DM.ti _ fun tt => DM.and _ (nomem (D1.index _ _))
    | extract x i => exact nomem (D1.tup _ _)
    | slice t x lo hi mx =>
      cases mx with
      | none => exact DM.ti _ fun tt => DM.still (G := fun m k => sSlK P tt (ev ts x) (lo.map (ev ts)) (hi.map (ev ts)) m k) (D1.slK _ _ _ _ _ m) fun m' hm => like_slK _ _ (lk x (by simp [rdO, Op.operands]) m' hm)
      | some mx =>
        cases lo with
        | none => exact DM.and _ (DM.ti _ fun tt => DM.sl _ (DM.ti _ fun _ => DM.still (G := fun m k => sSlice0 m (ev ts x) k) (D1.slice0 m _) fun m' hm => like_slice0 (lk x (by simp [rdO, Op.operands]) m' hm)))
        | some lo => exact DM.no _ _
    | call c =>
      obtain ⟨callee, args, tys⟩ := c
      have hin : ∀ o, o ∈ args.toList → o ∈ rdO (Op.call ⟨callee, args, tys⟩) := fun o ho => by show o ∈ (Op.call ⟨callee, args, tys⟩).operands.toList; simp only [Op.operands, Call.operands, Array.toList_append, List.mem_append]; exact .inr ho
      show DM (fun m k => match callee, args.toList with
        | .builtin .len, [x] => match tys.toList with | t :: _ => sTI (tiOf P t) fun ti => sLen ti.kind m (ev ts x) fun v => k v m | [] => False
        | .builtin .max, [x, y] => sMax (ev ts x) (ev ts y) fun v => k v m
        | .builtin .min, [x, y] => sMin (ev ts x) (ev ts y) fun v => k v m
        | .builtin .min, [x, y, z] => sMin (ev ts x) (ev ts y) fun u => sMin u (ev ts z) fun v => k v m
        | .builtin .append, [x, y] => sAppTX P tys.toList d (ev ts x) (ev ts y) m k
        | .value (.func f), xs => sCall P f d (xs.map (ev ts)) m k
        | .value (.tmp t), xs => sCallV P (look ts t) d (xs.map (ev ts)) m k
        | _, _ => False) (Reads (.call ⟨callee, args, tys⟩) ts) m
      generalize hl0 : args.toList = l at hin
      split
      · rename_i x
        split
        · exact DM.ti _ fun ti => DM.still (G := fun m k => sLen ti.kind m (ev ts x) k) (D1.len _ m _) fun m' hm => like_len _ (lk x (hin x (by simp)) m' hm)
        · exact DM.no _ _
      · exact nomem (D1.max _ _)
      · exact nomem (D1.min _ _)
      · exact nomem (D1.bind (D1.min _ _) fun u => D1.min u _)
      · rename_i x y
        exact (hna _ x y rfl rfl hl0).elim
      · exact absurd rfl (hno _ _ rfl)
      · exact absurd rfl (hnt _ _ rfl)
      · exact DM.no _ _
    | _ => exact DM.no _ _
  cases op with
  | call c =>
    by_cases hf : ∃ f, c.callee = .value (.func f)
    · obtain ⟨f, hf⟩ := hf
      have : sOpD P d (.call c) ts = sCallD P f d (c.args.toList.map (ev ts)) := by
        funext m k
        simp only [sOpD, hf]
      rw [this]
      refine (DM.callD P f d _ m).mono fun l hl => ?_
      obtain ⟨x, hx, hl⟩ := hl
      obtain ⟨o, ho, rfl⟩ := List.mem_map.1 hx
      exact ⟨o, by show o ∈ (Op.call c).operands.toList; simp only [Op.operands, Call.operands, Array.toList_append, List.mem_append]; exact .inr ho, hl⟩
    · by_cases hft : ∃ t, c.callee = .value (.tmp t)
      · obtain ⟨t, hft⟩ := hft
        have : sOpD P d (.call c) ts = sCallDV P (look ts t) d (c.args.toList.map (ev ts)) := by
          funext m k
          simp only [sOpD, hft]
        rw [this]
        refine (DM.callDV P (look ts t) d _ m).mono fun l hl => ?_
        rcases hl with ⟨x, hx, hl⟩ | hl
        · obtain ⟨o, ho, rfl⟩ := List.mem_map.1 hx
          exact ⟨o, by show o ∈ (Op.call c).operands.toList; simp only [Op.operands, Call.operands, Array.toList_append, List.mem_append]; exact .inr ho, hl⟩
        · exact ⟨.tmp t, by show Operand.tmp t ∈ (Op.call c).operands.toList; simp [Op.operands, Call.operands, hft], hl⟩
      by_cases hfa : ∃ x y, c.callee = .builtin .append ∧ c.args.toList = [x, y]
      · obtain ⟨x, y, hc, hx⟩ := hfa
        have : sOpD P d (.call c) ts = sAppTX P c.argTypes.toList d (ev ts x) (ev ts y) := by
          funext m k
          simp only [sOpD, hc, hx]
        rw [this]
        have hin : ∀ o, o ∈ c.args.toList → o ∈ rdO (Op.call c) := fun o ho => by show o ∈ (Op.call c).operands.toList; simp only [Op.operands, Call.operands, Array.toList_append, List.mem_append]; exact .inr ho
        exact (DM.appTX P _ d _ _ m).mono fun l hl => hl.elim (fun hl => ⟨x, hin x (by rw [hx]; simp), hl⟩) fun hl => ⟨y, hin y (by rw [hx]; simp), hl⟩
      have : sOpD P d (.call c) ts = sOp P d (.call c) ts := by
        funext m k
        simp only [sOpD]
        split
        · rename_i f hc; exact absurd ⟨f, hc⟩ hf
        · rename_i f hc; exact absurd ⟨f, hc⟩ hft
        · rename_i x y hc hx; exact absurd ⟨x, y, hc, hx⟩ hfa
        · rfl
      rw [this]
      exact other (fun _ _ _ e => (by cases e)) (fun c' f e hc => hf ⟨f, by injection e with e; rw [e]; exact hc⟩) (fun c' f e hc => hft ⟨f, by injection e with e; rw [e]; exact hc⟩) (fun _ _ _ _ _ e => (by cases e)) (fun _ _ e => (by cases e)) (fun _ _ _ e => (by cases e)) (fun c' x y e hc hx => hfa ⟨x, y, by injection e with e; rw [e]; exact hc, by injection e with e; rw [e]; exact hx⟩)
  | binOp op t x y t2 => exact DM.ti _ fun ti => nomem (G := fun k => sBinS P t op (ev ts x) (ev ts y) k (sBin op ti.kind (ev ts x) (ev ts y) k)) (D1.binS P t op ti.kind (ev ts x) (ev ts y))
  | load t x => exact DM.ti _ fun ti => (DM.load ti.agg ti.size (ev ts x) m).mono (rd x (by simp [rdO, Op.operands]))
  | store t p y => exact DM.ti _ fun ti => (DM.store ti.size (ev ts p) (ev ts y) m).mono (rd p (by simp [rdO, Op.operands]))
  | indexAddr t x i => exact DM.ti _ fun tt => DM.sl _ (DM.ti _ fun ti => DM.still (G := fun m k => sIdx ti.sh m (ev ts x) (ev ts i) k) (D1.idx _ m _ _) fun m' hm => like_idx _ _ (lk x (by simp [rdO, Op.operands]) m' hm))
  | _ => exact other (fun _ _ _ e => (by cases e)) (fun _ _ e => (by cases e)) (fun _ _ e => (by cases e)) (fun _ _ _ _ _ e => (by cases e)) (fun _ _ e => (by cases e)) (fun _ _ _ e => (by cases e)) (fun _ _ _ e => (by cases e))

theorem sOpD_ts {P : Program} {d : Nat} {op : Op} {ts ts' : Env} (h : ∀ o, o ∈ op.operands.toList → ev ts' o = ev ts o) (m : Mem) (k : AV → Mem → Prop) : sOpD P d op ts' m k = sOpD P d op ts m k := by
  have parts : ∀ (ps : Array (Nat × Operand)), (∀ o, o ∈ (ps.toList.map (·.2)) → ev ts' o = ev ts o) → (ps.toList.map fun p => (p.1, ev ts' p.2)) = ps.toList.map fun p => (p.1, ev ts p.2) := by
    intro ps hp
    refine List.map_congr_left fun p hpp => ?_
    rw [hp p.2 (List.mem_map.2 ⟨p, hpp, rfl⟩)]
  have optm : ∀ (lo : Option Operand), (∀ o, o ∈ lo.toList → ev ts' o = ev ts o) → lo.map (ev ts') = lo.map (ev ts) := by
    intro lo hp
    cases lo with
    | none => rfl
    | some o => simp [hp o (by simp)]
  cases op with
  | call c =>
    obtain ⟨callee, args, tys⟩ := c
    have hin : ∀ o, o ∈ args.toList → ev ts' o = ev ts o := fun o ho => h o (by simp only [Op.operands, Call.operands, Array.toList_append, List.mem_append]; exact .inr ho)
    have hcl : ∀ t, callee = .value (.tmp t) → look ts' t = look ts t := fun t e => h (.tmp t) (by subst e; simp [Op.operands, Call.operands])
    simp only [sOpD, sOp]
    generalize args.toList = l at hin
    split
    · rename_i f xs
      rw [List.map_congr_left hin]
    · rw [List.map_congr_left hin, hcl _ rfl]
    · simp only [hin _ (List.mem_cons_self ..), hin _ (List.mem_cons_of_mem _ (List.mem_cons_self ..))]
    · split <;> first
        | rfl
        | (rename_i hx; exact (hx _ rfl).elim)
        | (rename_i hx _; exact (hx _ rfl).elim)
        | (rename_i hx _ _; exact (hx _ rfl).elim)
        | simp only [hin _ (List.mem_cons_self ..), hin _ (List.mem_cons_of_mem _ (List.mem_cons_self ..)), hin _ (List.mem_cons_of_mem _ (List.mem_cons_of_mem _ (List.mem_cons_self ..)))]
        | simp only [hin _ (List.mem_cons_self ..), hin _ (List.mem_cons_of_mem _ (List.mem_cons_self ..))]
        | simp only [hin _ (List.mem_cons_self ..)]
        | rw [List.map_congr_left hin]
  | makeFunc fn first caps =>
    cases fn <;> first
      | rfl
      | (simp only [sOpD, sOp]; rw [List.map_congr_left (fun o ho => h o (by simp [Op.operands]; exact .inr (by simpa using ho)))])
  | build t ps => simp only [sOpD, sOp]; rw [parts ps fun o ho => h o (by simpa [Op.operands] using ho)]
  | buildSlice t n ps => simp only [sOpD, sOp]; rw [parts ps fun o ho => h o (by simpa [Op.operands] using ho)]
  | slice t x lo hi mx =>
    cases mx with
    | none => simp only [sOpD, sOp]; rw [h x (by simp [Op.operands]), optm lo fun o ho => h o (by simp only [Op.operands]; simp at ho ⊢; simp [ho]), optm hi fun o ho => h o (by simp only [Op.operands]; simp at ho ⊢; simp [ho])]
    | some mx =>
      cases lo with
      | none => simp only [sOpD, sOp]; rw [h x (by simp [Op.operands])]
      | some lo => rfl
  | unOp op t x => cases op <;> simp only [sOpD, sOp] <;> rw [h x (by simp [Op.operands])]
  | pick c x y => simp only [sOpD, sOp]; rw [h c (by simp [Op.operands]), h x (by simp [Op.operands]), h y (by simp [Op.operands])]
  | store t x y => simp only [sOpD, sOp]; rw [h x (by simp [Op.operands]), h y (by simp [Op.operands])]
  | binOp op t x y t2 => simp only [sOpD, sOp]; rw [h x (by simp [Op.operands]), h y (by simp [Op.operands])]
  | makeSlice t x y => simp only [sOpD, sOp]; rw [h x (by simp [Op.operands]), h y (by simp [Op.operands])]
  | indexAddr t x y => simp only [sOpD, sOp]; rw [h x (by simp [Op.operands]), h y (by simp [Op.operands])]
  | index t x y => simp only [sOpD, sOp]; rw [h x (by simp [Op.operands]), h y (by simp [Op.operands])]
  | move x => simp only [sOpD, sOp]; rw [h x (by simp [Op.operands])]
  | assign x => simp only [sOpD, sOp]; rw [h x (by simp [Op.operands])]
  | box t x => simp only [sOpD, sOp]; rw [h x (by simp [Op.operands])]
  | load t x => simp only [sOpD, sOp]; rw [h x (by simp [Op.operands])]
  | nilCheck x => simp only [sOpD, sOp]; rw [h x (by simp [Op.operands])]
  | convert s t x => simp only [sOpD, sOp]; rw [h x (by simp [Op.operands])]
  | fieldAddr t x f => simp only [sOpD, sOp]; rw [h x (by simp [Op.operands])]
  | field t x f => simp only [sOpD, sOp]; rw [h x (by simp [Op.operands])]
  | extract x i => simp only [sOpD, sOp]; rw [h x (by simp [Op.operands])]
  | _ => rfl

end Go.Vc


set_option linter.unusedVariables false
set_option linter.unusedSimpArgs false
set_option linter.unnecessarySimpa false
namespace Go.Vc

structure Rec where
  x : AV
  new : Mem

def want1 (ops : List Oper) (o : Oper) (ts : Env) : Option Bool := match o.guard with
  | none => some true
  | some (j, w) => match look ts (dstOf ops j) with
    | .val (.bool c) => some (c == w)
    | .tup [] => some false
    | _ => none

def tR (ops : List Oper) (o : Oper) : List Nat := (o.op.operands.toList.filterMap fun | .tmp t => some t | _ => none) ++ (match o.guard with | some (j, _) => [dstOf ops j] | none => [])
def rdL (op : Op) (ts : Env) : List Nat := (rdO op).flatMap fun o => (labs (ev ts o)).map (·.1)

def YA (P : Program) (ops : List Oper) (o : Oper) (q : Rec) (rd : List Nat) (ts : Env) (m : Mem) : Prop :=
  (want1 ops o ts = some true ∧ (∀ l, l ∈ rdL o.op ts → l ∈ rd) ∧ ∀ m', (∀ l, l ∈ rdL o.op ts → lookB m' l = lookB m l) → (∀ l, l ∈ q.new.map (·.1) → lookB m' l = lookB m l) → ∀ k, k q.x (q.new ++ m') → sOpD P (o.dst.getD 0) o.op ts m' k) ∨
  (want1 ops o ts = some false ∧ q.x = .tup [] ∧ q.new = [])

theorem ev_of_look {ts ts' : Env} {o : Operand} (h : ∀ t, o = .tmp t → look ts' t = look ts t) : ev ts' o = ev ts o := by
  cases o with
  | tmp t => exact h t rfl
  | _ => rfl

theorem evs_of_tR {ops : List Oper} {o : Oper} {ts ts' : Env} (h : ∀ t, t ∈ tR ops o → look ts' t = look ts t) : ∀ x, x ∈ o.op.operands.toList → ev ts' x = ev ts x := fun x hx =>
  ev_of_look fun t ht => h t (by
    subst ht
    unfold tR
    exact List.mem_append_left _ (List.mem_filterMap.2 ⟨_, hx, rfl⟩))

theorem want1_of_tR {ops : List Oper} {o : Oper} {ts ts' : Env} (h : ∀ t, t ∈ tR ops o → look ts' t = look ts t) : want1 ops o ts' = want1 ops o ts := by
  unfold want1
  split
  · rfl
  · rename_i j w hg
    rw [h (dstOf ops j) (by unfold tR; rw [hg]; exact List.mem_append_right _ (List.mem_singleton.2 rfl))]

theorem YA.local {P : Program} {ops : List Oper} {o : Oper} {q : Rec} {rd : List Nat} {ts ts' : Env} {m m' : Mem} (h : YA P ops o q rd ts m) (ht : ∀ t, t ∈ tR ops o → look ts' t = look ts t)
    (hr : ∀ l, l ∈ rd → lookB m' l = lookB m l) (hn : ∀ l, l ∈ q.new.map (·.1) → lookB m' l = lookB m l) : YA P ops o q rd ts' m' := by
  have hev := evs_of_tR ht
  have hrd : rdL o.op ts' = rdL o.op ts := by
    unfold rdL
    rw [List.flatMap_def, List.flatMap_def, List.map_congr_left fun x hx => by rw [hev x (rdO_sub hx)]]
  rcases h with ⟨h1, h2, h3⟩ | ⟨h1, h2, h3⟩
  · refine .inl ⟨(want1_of_tR ht).trans h1, fun l hl => h2 l (hrd ▸ hl), fun m'' hm hm' k hk => ?_⟩
    rw [sOpD_ts hev]
    exact h3 m'' (fun l hl => (hm l (hrd ▸ hl)).trans (hr l (h2 l hl))) (fun l hl => (hm' l hl).trans (hn l hl)) k hk
  · exact .inr ⟨(want1_of_tR ht).trans h1, h2, h3⟩

def Stt (os : Nat → Oper) (qs : Nat → Rec) (D : Nat → Bool) (ts : Env) (m : Mem) : Nat → Env × Mem
  | 0 => (ts, m)
  | i + 1 => if D i then (putE (os i).dst (qs i).x (Stt os qs D ts m i).1, (qs i).new ++ (Stt os qs D ts m i).2) else Stt os qs D ts m i

section
variable {os : Nat → Oper} {qs : Nat → Rec} {D D' : Nat → Bool} {ts : Env} {m : Mem}

theorem look_putE (d : Option Nat) (x : AV) (ts : Env) (t : Nat) : look (putE d x ts) t = if d = some t then x else look ts t := by
  cases d with
  | none => simp [putE]
  | some d => simp [putE, look_cons]

theorem lookB_new {new m : Mem} {l : Nat} (h : l ∉ new.map (·.1)) : lookB (new ++ m) l = lookB m l := by
  induction new with
  | nil => rfl
  | cons p r ih =>
    obtain ⟨k, v⟩ := p
    simp only [List.map_cons, List.mem_cons, not_or] at h
    rw [List.cons_append, lookB_cons, if_neg (fun e => h.1 e.symm), ih h.2]
theorem lookB_new_of {new m m' : Mem} {l : Nat} (h : l ∈ new.map (·.1)) : lookB (new ++ m) l = lookB (new ++ m') l := by
  induction new with
  | nil => cases h
  | cons p r ih =>
    obtain ⟨k, v⟩ := p
    simp only [List.cons_append, lookB_cons]
    by_cases e : k = l
    · simp [e]
    · simp only [if_neg e]
      exact ih (by simp only [List.map_cons, List.mem_cons] at h; exact h.resolve_left fun hh => e hh.symm)

theorem Stt_look {t : Nat} : ∀ (hi : Nat) (lo : Nat), lo ≤ hi → (∀ i, lo ≤ i → i < hi → D i ≠ D' i → (os i).dst ≠ some t) → look (Stt os qs D ts m lo).1 t = look (Stt os qs D' ts m lo).1 t →
    look (Stt os qs D ts m hi).1 t = look (Stt os qs D' ts m hi).1 t
  | 0, lo, hl, _, h => by rw [show lo = 0 by omega] at h; exact h
  | hi + 1, lo, hl, hd, h => by
    by_cases e : lo = hi + 1
    · subst e; exact h
    · have ih := Stt_look hi lo (by omega) (fun i h1 h2 => hd i h1 (by omega)) h
      have hne := hd hi (by omega) (by omega)
      simp only [Stt]
      cases h1 : D hi <;> cases h2 : D' hi <;> simp only [Bool.false_eq_true, if_true, if_false] <;> (try simp only [look_putE])
      · exact ih
      · rw [if_neg (hne (by simp [h1, h2]))]; exact ih
      · rw [if_neg (hne (by simp [h1, h2]))]; exact ih
      · rw [ih]
theorem Stt_lookB {l : Nat} : ∀ (hi : Nat) (lo : Nat), lo ≤ hi → (∀ i, lo ≤ i → i < hi → D i ≠ D' i → l ∉ (qs i).new.map (·.1)) → lookB (Stt os qs D ts m lo).2 l = lookB (Stt os qs D' ts m lo).2 l →
    lookB (Stt os qs D ts m hi).2 l = lookB (Stt os qs D' ts m hi).2 l
  | 0, lo, hl, _, h => by rw [show lo = 0 by omega] at h; exact h
  | hi + 1, lo, hl, hd, h => by
    by_cases e : lo = hi + 1
    · subst e; exact h
    · have ih := Stt_lookB hi lo (by omega) (fun i h1 h2 => hd i h1 (by omega)) h
      have hne := hd hi (by omega) (by omega)
      simp only [Stt]
      cases h1 : D hi <;> cases h2 : D' hi <;> simp only [Bool.false_eq_true, if_true, if_false]
      · exact ih
      · rw [lookB_new (hne (by simp [h1, h2]))]; exact ih
      · rw [lookB_new (hne (by simp [h1, h2]))]; exact ih
      · by_cases hl : l ∈ (qs hi).new.map (·.1)
        · exact lookB_new_of hl
        · rw [lookB_new hl, lookB_new hl]; exact ih

theorem Stt_prefix {j : Nat} : ∀ (i : Nat), i ≤ j → (∀ q, q < j → D q = D' q) → Stt os qs D ts m i = Stt os qs D' ts m i
  | 0, _, _ => rfl
  | i + 1, hi, h => by simp only [Stt]; rw [Stt_prefix i (by omega) h, h i (by omega)]
theorem Stt_stop {j : Nat} (h : ∀ q, j ≤ q → D q = false) : ∀ (i : Nat), j ≤ i → Stt os qs D ts m i = Stt os qs D ts m j
  | 0, hi => by rw [show j = 0 by omega]
  | i + 1, hi => by
    by_cases e : j = i + 1
    · rw [e]
    · simp only [Stt]
      rw [h i (by omega)]
      simpa using Stt_stop h i (by omega)

end

def ins (a xs : List Nat) : List Nat := xs.foldl (fun a x => if a.contains x then a else x :: a) a
theorem mem_ins {x : Nat} : ∀ (xs a : List Nat), x ∈ ins a xs → x ∈ a ∨ x ∈ xs
  | [], a, h => .inl h
  | y :: r, a, h => by
    simp only [ins, List.foldl_cons] at h
    rcases mem_ins r _ h with h | h
    · split at h
      · exact .inl h
      · rcases List.mem_cons.1 h with rfl | h
        · exact .inr (List.mem_cons_self ..)
        · exact .inl h
    · exact .inr (List.mem_cons_of_mem _ h)
def preds (o : Oper) : List Nat := (o.after.toList.filter (Region.binds .any)).map (·.on)
def ancOf (acc : List (List Nat)) (o : Oper) : List Nat := (preds o).foldl (fun a i => ins a (i :: acc.getD i [])) []
theorem mem_ancOf {x : Nat} {acc : List (List Nat)} : ∀ (ps a : List Nat), x ∈ ps.foldl (fun a i => ins a (i :: acc.getD i [])) a → x ∈ a ∨ ∃ i, i ∈ ps ∧ (x = i ∨ x ∈ acc.getD i [])
  | [], a, h => .inl h
  | p :: r, a, h => by
    rw [List.foldl_cons] at h
    rcases mem_ancOf r _ h with h | ⟨i, hi, h⟩
    · rcases mem_ins _ _ h with h | h
      · exact .inl h
      · exact .inr ⟨p, List.mem_cons_self .., List.mem_cons.1 h⟩
    · exact .inr ⟨i, List.mem_cons_of_mem _ hi, h⟩
def ancsGo : List Oper → List (List Nat) → List (List Nat)
  | [], acc => acc
  | o :: r, acc => ancsGo r (acc ++ [ancOf acc o])

def Closed (ops : List Oper) (D : Nat → Bool) : Prop := ∀ j o, ops[j]? = some o → D j = true → ∀ i, i ∈ preds o → D i = true

theorem ancsGo_closed {ops : List Oper} {D : Nat → Bool} (hD : Closed ops D) : ∀ (l : List Oper) (acc : List (List Nat)), ops.drop acc.length = l → (∀ j x, x ∈ acc.getD j [] → D j = true → D x = true) →
    ∀ j x, x ∈ (ancsGo l acc).getD j [] → D j = true → D x = true
  | [], acc, _, h => h
  | o :: r, acc, hl, h => by
    have hoi : ops[acc.length]? = some o := by
      have := congrArg (·[0]?) hl
      simpa using this
    refine ancsGo_closed hD r (acc ++ [ancOf acc o]) ?_ ?_
    · have := congrArg List.tail hl
      simpa using this
    · intro j x hx hj
      by_cases e : j < acc.length
      · refine h j x ?_ hj
        rwa [List.getD_eq_getElem?_getD, List.getElem?_append_left e, ← List.getD_eq_getElem?_getD] at hx
      · by_cases e2 : j = acc.length
        · subst e2
          rw [List.getD_eq_getElem?_getD, List.getElem?_append_right (Nat.le_refl _)] at hx
          simp only [Nat.sub_self, List.getElem?_cons_zero, Option.getD_some] at hx
          rcases mem_ancOf _ _ hx with hx | ⟨i, hi, hx⟩
          · cases hx
          · have h1 := hD _ o hoi hj i hi
            rcases hx with rfl | hx
            · exact h1
            · exact h i x hx h1
        · rw [List.getD_eq_getElem?_getD, List.getElem?_eq_none (by simp; omega)] at hx
          cases hx

def apartP (ops : List Oper) (oi oj : Oper) (ti tj : List Nat × List Nat) : Bool :=
  (match oi.dst with | some d => !(tR ops oj).contains d && oj.dst != some d | none => true) && (match oj.dst with | some d => !(tR ops oi).contains d | none => true) &&
  ti.2.all (fun l => !tj.1.contains l && !tj.2.contains l) && tj.2.all (fun l => !ti.1.contains l)
def backB (ops : List Oper) : Bool := (List.range ops.length).all fun i => match ops[i]? with | some o => (preds o).all fun p => decide (p < i) | none => true
def drawB (ops : List Oper) (tr : List (List Nat × List Nat)) : Bool :=
  backB ops && (List.range ops.length).all fun j => (List.range j).all fun i => ((ancsGo ops []).getD j []).contains i ||
    match ops[i]?, ops[j]?, tr[i]?, tr[j]? with
    | some oi, some oj, some ti, some tj => apartP ops oi oj ti tj
    | _, _, _, _ => false

structure ApartI (ops : List Oper) (oi oj : Oper) (ri rj wi wj : List Nat) : Prop where
  t1 : ∀ d, oi.dst = some d → d ∉ tR ops oj
  t2 : ∀ d, oj.dst = some d → d ∉ tR ops oi
  t3 : ∀ d, oi.dst = some d → oj.dst ≠ some d
  l1 : ∀ l, l ∈ wi → l ∉ rj
  l2 : ∀ l, l ∈ wj → l ∉ ri
  l3 : ∀ l, l ∈ wi → l ∉ wj

theorem apartP_out {ops : List Oper} {oi oj : Oper} {ti tj : List Nat × List Nat} (h : apartP ops oi oj ti tj = true) : ApartI ops oi oj ti.1 tj.1 ti.2 tj.2 := by
  simp only [apartP, Bool.and_eq_true, List.all_eq_true, Bool.not_eq_true', List.contains_eq_mem, decide_eq_false_iff_not] at h
  obtain ⟨⟨⟨h1, h2⟩, h3⟩, h4⟩ := h
  refine ⟨fun d hd => ?_, fun d hd => ?_, fun d hd => ?_, fun l hl => (h3 l hl).1, fun l hl => h4 l hl, fun l hl => (h3 l hl).2⟩
  · rw [hd] at h1; simp at h1; exact h1.1
  · rw [hd] at h2; simp at h2; exact h2
  · rw [hd] at h1; simp at h1; exact h1.2

theorem drawB_out {ops : List Oper} {tr : List (List Nat × List Nat)} (h : drawB ops tr = true) {D : Nat → Bool} (hD : Closed ops D) {i j : Nat} (hij : i < j) {oi oj : Oper} {ti tj : List Nat × List Nat}
    (hi : ops[i]? = some oi) (hj : ops[j]? = some oj) (h1 : tr[i]? = some ti) (h2 : tr[j]? = some tj) (hd : ¬ (D j = true → D i = true)) : ApartI ops oi oj ti.1 tj.1 ti.2 tj.2 := by
  have hjl : j < ops.length := (List.getElem?_eq_some_iff.1 hj).1
  simp only [drawB, Bool.and_eq_true, List.all_eq_true, List.mem_range, Bool.or_eq_true, List.contains_eq_mem, decide_eq_true_eq] at h
  rcases h.2 j hjl i hij with hh | hh
  · exact absurd (ancsGo_closed hD ops [] rfl (fun j x hx => by simp at hx) j i hh) hd
  · rw [hi, hj, h1, h2] at hh
    exact apartP_out hh

end Go.Vc


set_option linter.unusedVariables false
set_option linter.unusedSimpArgs false
set_option linter.unnecessarySimpa false
namespace Go.Vc

section
variable {P : Program} {B : Base} {N : Nat} {φ : Nat → LS} {fp : Nat → List Nat} {S : Nat → Prop} {ts : Env} {m : Mem} {a : Act} {w : World}

theorem RS.ext (h : RS B N φ fp S ts m a w) {ts' : Env} {m' : Mem} (ht : ∀ t, look ts' t = look ts t) (hm : ∀ l, lookB m' l = lookB m l) : RS B N φ fp S ts' m' a w := by
  have hk : ∀ l ver, known m l ver → known m' l ver := fun l ver ⟨k, h1, h2⟩ => ⟨k, (hm l).trans h1, h2⟩
  exact { h with
    kn := fun l ver hl hk => by obtain ⟨k, h1, h2⟩ := h.kn l ver hl hk; exact ⟨k, (hm l).trans h1, h2⟩
    tm := fun t => by rw [ht t]; exact h.tm t
    tl := fun t l ver hl => hk l ver (h.tl t l ver (by rw [← ht t]; exact hl))
    mNone := fun l hl => h.mNone l ((hm l).symm.trans hl)
    mSome := fun l k hl => h.mSome l k ((hm l).symm.trans hl)
    bl := fun l v xs hl l' ver hlv => hk l' ver (h.bl l v xs ((hm l).symm.trans hl) l' ver hlv) }

variable {os : Nat → Oper} {qs : Nat → Rec} {D D' : Nat → Bool} {ops : List Oper} {tr : List (List Nat × List Nat)}

theorem Stt_keep {lo : Nat} {t : Nat} : ∀ (hi : Nat), lo ≤ hi → (∀ i, lo ≤ i → i < hi → D i = true → (os i).dst ≠ some t) → look (Stt os qs D ts m hi).1 t = look (Stt os qs D ts m lo).1 t
  | 0, hl, _ => by rw [show lo = 0 by omega]
  | hi + 1, hl, h => by
    by_cases e : lo = hi + 1
    · rw [e]
    · have ih := Stt_keep hi (by omega) fun i h1 h2 => h i h1 (by omega)
      simp only [Stt]
      cases hd : D hi with
      | false => simpa using ih
      | true =>
        simp only [if_true, look_putE]
        rw [if_neg (h hi (by omega) (by omega) hd)]
        exact ih
theorem Stt_keepB {lo : Nat} {l : Nat} : ∀ (hi : Nat), lo ≤ hi → (∀ i, lo ≤ i → i < hi → D i = true → l ∉ (qs i).new.map (·.1)) → lookB (Stt os qs D ts m hi).2 l = lookB (Stt os qs D ts m lo).2 l
  | 0, hl, _ => by rw [show lo = 0 by omega]
  | hi + 1, hl, h => by
    by_cases e : lo = hi + 1
    · rw [e]
    · have ih := Stt_keepB hi (by omega) fun i h1 h2 => h i h1 (by omega)
      simp only [Stt]
      cases hd : D hi with
      | false => simpa using ih
      | true =>
        simp only [if_true]
        rw [lookB_new (h hi (by omega) (by omega) hd)]
        exact ih

structure Ran (P : Program) (sk : Nat) (ops : List Oper) (os : Nat → Oper) (qs : Nat → Rec) (tr : List (List Nat × List Nat)) (ts : Env) (m : Mem) : Prop where
  oe : ∀ i o, sk ≤ i → ops[i]? = some o → os i = o
  ya : ∀ i o, sk ≤ i → ops[i]? = some o → ∃ t, tr[i]? = some t ∧ YA P ops o (qs i) t.1 (Stt os qs (fun _ => true) ts m i).1 (Stt os qs (fun _ => true) ts m i).2 ∧ ∀ l, l ∈ (qs i).new.map (·.1) → l ∈ t.2

def addD (D : Nat → Bool) (j : Nat) : Nat → Bool := fun i => D i || i == j

theorem Closed.add {j : Nat} {o : Oper} (h : Closed ops D) (ho : ops[j]? = some o) (hp : ∀ i, i ∈ preds o → D i = true) : Closed ops (addD D j) := by
  intro k o' hk hd i hi
  simp only [addD, Bool.or_eq_true, beq_iff_eq] at hd ⊢
  rcases hd with hd | rfl
  · exact .inl (h k o' hk hd i hi)
  · rw [ho] at hk; injection hk with hk; subst hk; exact .inl (hp i hi)

theorem Ran.turn {sk : Nat} (hR : Ran P sk ops os qs tr ts m) (hB : drawB ops tr = true) (hD : Closed ops D) (hn : ∀ i, D i = true → i < ops.length) (hsk : ∀ i, i < sk → D i = true) {j : Nat} {o : Oper} (ho : ops[j]? = some o) (hj : D j = false)
    (hp : ∀ i, i ∈ preds o → D i = true) :
    (∃ rd, YA P ops o (qs j) rd (Stt os qs D ts m ops.length).1 (Stt os qs D ts m ops.length).2) ∧
    (∀ t, look (Stt os qs (addD D j) ts m ops.length).1 t = look (putE o.dst (qs j).x (Stt os qs D ts m ops.length).1) t) ∧
    (∀ l, lookB (Stt os qs (addD D j) ts m ops.length).2 l = lookB ((qs j).new ++ (Stt os qs D ts m ops.length).2) l) := by
  have hjn : j < ops.length := (List.getElem?_eq_some_iff.1 ho).1
  have hskj : sk ≤ j := by
    rcases Nat.lt_or_ge j sk with h | h
    · rw [hsk j h] at hj; cases hj
    · exact h
  obtain ⟨t, ht, hya, hnew⟩ := hR.ya j o hskj ho
  have hoj := hR.oe j o hskj ho
  have hget : ∀ i, sk ≤ i → i < ops.length → ∃ (oi : Oper) (ti : List Nat × List Nat), ops[i]? = some oi ∧ os i = oi ∧ tr[i]? = some ti ∧ ∀ l, l ∈ (qs i).new.map (·.1) → l ∈ ti.2 := by
    intro i hsi hi
    have h1 : ops[i]? = some ops[i] := List.getElem?_eq_getElem hi
    obtain ⟨ti, h2, _, h3⟩ := hR.ya i _ hsi h1
    exact ⟨_, ti, h1, hR.oe i _ hsi h1, h2, h3⟩
  have early : ∀ i, i < j → D i = false → ∃ (oi : Oper) (ti : List Nat × List Nat), os i = oi ∧ (∀ l, l ∈ (qs i).new.map (·.1) → l ∈ ti.2) ∧ ApartI ops oi o ti.1 t.1 ti.2 t.2 := by
    intro i hi hdi
    have hsi : sk ≤ i := by
      rcases Nat.lt_or_ge i sk with h | h
      · rw [hsk i h] at hdi; cases hdi
      · exact h
    obtain ⟨oi, ti, h1, h2, h3, h4⟩ := hget i hsi (by omega)
    refine ⟨oi, ti, h2, h4, drawB_out hB (hD.add ho hp) hi h1 ho h3 ht fun hh => ?_⟩
    have := hh (by simp [addD])
    simp only [addD, hdi, Bool.false_or, beq_iff_eq] at this
    omega
  have late : ∀ i, j < i → D i = true → ∃ (oi : Oper) (ti : List Nat × List Nat), os i = oi ∧ (∀ l, l ∈ (qs i).new.map (·.1) → l ∈ ti.2) ∧ ApartI ops o oi t.1 ti.1 t.2 ti.2 := by
    intro i hi hdi
    obtain ⟨oi, ti, h1, h2, h3, h4⟩ := hget i (by omega) (hn i hdi)
    refine ⟨oi, ti, h2, h4, drawB_out hB hD hi ho h1 ht h3 fun hh => ?_⟩
    have := hh hdi
    rw [hj] at this; cases this
  have hpre : Stt os qs (fun _ => true) ts m j = Stt os qs (fun i => decide (i < j)) ts m ops.length := by
    rw [Stt_stop (j := j) (fun q hq => by simp; omega) ops.length (by omega)]
    exact Stt_prefix j (Nat.le_refl _) fun q hq => by simp [hq]
  rw [hpre] at hya
  refine ⟨⟨t.1, hya.local (fun u hu => ?_) (fun l hl => ?_) (fun l hl => ?_)⟩, fun u => ?_, fun l => ?_⟩
  · refine Stt_look ops.length 0 (Nat.zero_le _) (fun i _ hi hne => ?_) rfl
    rcases Nat.lt_trichotomy i j with h | h | h
    · simp only [h, decide_true] at hne
      obtain ⟨oi, ti, h1, h2, h3⟩ := early i h (by simpa using hne)
      rw [h1]
      exact fun hd => h3.t1 _ hd hu
    · subst h; simp [hj] at hne
    · have : decide (i < j) = false := by simp; omega
      rw [this] at hne
      obtain ⟨oi, ti, h1, h2, h3⟩ := late i h (by simpa using hne)
      rw [h1]
      exact fun hd => h3.t2 _ hd hu
  · refine Stt_lookB ops.length 0 (Nat.zero_le _) (fun i _ hi hne => ?_) rfl
    rcases Nat.lt_trichotomy i j with h | h | h
    · simp only [h, decide_true] at hne
      obtain ⟨oi, ti, h1, h2, h3⟩ := early i h (by simpa using hne)
      exact fun hd => h3.l1 _ (h2 l hd) hl
    · subst h; simp [hj] at hne
    · have : decide (i < j) = false := by simp; omega
      rw [this] at hne
      obtain ⟨oi, ti, h1, h2, h3⟩ := late i h (by simpa using hne)
      exact fun hd => h3.l2 _ (h2 l hd) hl
  · refine Stt_lookB ops.length 0 (Nat.zero_le _) (fun i _ hi hne => ?_) rfl
    rcases Nat.lt_trichotomy i j with h | h | h
    · simp only [h, decide_true] at hne
      obtain ⟨oi, ti, h1, h2, h3⟩ := early i h (by simpa using hne)
      exact fun hd => h3.l3 _ (h2 l hd) (hnew l hl)
    · subst h; simp [hj] at hne
    · have : decide (i < j) = false := by simp; omega
      rw [this] at hne
      obtain ⟨oi, ti, h1, h2, h3⟩ := late i h (by simpa using hne)
      exact fun hd => h3.l3 _ (hnew l hl) (h2 l hd)
  · rw [look_putE]
    by_cases hd : o.dst = some u
    · rw [if_pos hd]
      rw [Stt_keep (lo := j + 1) ops.length hjn fun i h1 h2 h3 => by
        have hdi : D i = true := by
          simp only [addD, Bool.or_eq_true, beq_iff_eq] at h3
          exact h3.resolve_right (by omega)
        obtain ⟨oi, ti, g1, _, g3⟩ := late i h1 hdi
        rw [g1]
        exact g3.t3 u hd]
      simp only [Stt, addD, beq_self_eq_true, Bool.or_true, if_true, look_putE, hoj, hd]
    · rw [if_neg hd]
      refine Stt_look ops.length 0 (Nat.zero_le _) (fun i _ hi hne => ?_) rfl
      have : i = j := by
        by_cases e : i = j
        · exact e
        · have : (i == j) = false := by simpa using e
          simp [addD, this] at hne
      subst this
      rw [hoj]; exact hd
  · by_cases hd : l ∈ (qs j).new.map (·.1)
    · rw [Stt_keepB (lo := j + 1) ops.length hjn fun i h1 h2 h3 => by
        have hdi : D i = true := by
          simp only [addD, Bool.or_eq_true, beq_iff_eq] at h3
          exact h3.resolve_right (by omega)
        obtain ⟨oi, ti, g1, g2, g3⟩ := late i h1 hdi
        exact fun hl => g3.l3 l (hnew l hd) (g2 l hl)]
      simp only [Stt, addD, beq_self_eq_true, Bool.or_true, if_true]
      exact lookB_new_of hd
    · rw [lookB_new hd]
      refine Stt_lookB ops.length 0 (Nat.zero_le _) (fun i _ hi hne => ?_) rfl
      have : i = j := by
        by_cases e : i = j
        · exact e
        · have : (i == j) = false := by simpa using e
          simp [addD, this] at hne
      subst this
      exact hd

theorem wanted_of (h : RS B N φ fp S ts m a w) (hgs : guardsOk N ops = true) {j : Nat} {o : Oper} (ho : ops[j]? = some o) {b : Bool} (hw : want1 ops o ts = some b) : Region.wanted o (yielded ops.toArray a.tmps) = b := by
  unfold want1 at hw
  unfold Region.wanted
  split at hw
  · rename_i hg; rw [hg]; injection hw
  · rename_i i v hg
    rw [hg]
    split at hw
    · rename_i c hl
      have hgo := List.all_eq_true.1 hgs o (List.mem_of_getElem? ho)
      rw [hg] at hgo
      have hj : ∃ d, ((ops[i]?).bind (·.dst)) = some d ∧ d < N := by
        simp only at hgo
        split at hgo
        · rename_i d hd; exact ⟨d, hd, by simpa using hgo⟩
        · cases hgo
      have hy := yield_of h hl hj
      simp only [hy]
      injection hw
    · rename_i hl
      have hgo := List.all_eq_true.1 hgs o (List.mem_of_getElem? ho)
      rw [hg] at hgo
      have hj : ∃ d, ((ops[i]?).bind (·.dst)) = some d ∧ d < N := by
        simp only at hgo
        split at hgo
        · rename_i d hd; exact ⟨d, hd, by simpa using hgo⟩
        · cases hgo
      have hy := yield_none h hl hj
      simp only [hy]
      injection hw with hw
    · cases hw

theorem countP_lt {f g : Nat → Bool} : ∀ (l : List Nat) (j : Nat), j ∈ l → f j = true → g j = false → (∀ i, g i = true → f i = true) → l.countP g < l.countP f
  | x :: r, j, hj, hf, hg, h => by
    have hle : ∀ l : List Nat, l.countP g ≤ l.countP f := fun l => List.countP_mono_left fun i _ hi => h i hi
    rw [List.countP_cons, List.countP_cons]
    rcases List.mem_cons.1 hj with rfl | hj
    · have := hle r
      simp [hf, hg]; omega
    · have := countP_lt r j hj hf hg h
      have h1 := h x
      cases hgx : g x <;> cases hfx : f x <;> simp_all <;> (try omega)

def unl (n : Nat) (listed : Array Bool) : Nat := (List.range n).countP fun i => !listed.getD i false

theorem any_sound {sk : Nat} {ts0 : Env} {m0 : Mem} (hR : Ran P sk ops os qs tr ts0 m0) (hB : drawB ops tr = true) (hok : opsOk N ops = true) (hgs : guardsOk N ops = true) {Q : Exit → Act → World → Prop} {K : St}
    (hK : K (Stt os qs (fun _ => true) ts0 m0 ops.length).1 (Stt os qs (fun _ => true) ts0 m0 ops.length).2) (hQ : ∀ a w, Done B N K a w → Q .normal a w) :
    ∀ (fuel : Nat) (listed : Array Bool) (φ : Nat → LS) (fp : Nat → List Nat) (S : Nat → Prop) (a : Act) (w : World), listed.size = ops.length → Closed ops (fun i => listed.getD i false) → (∀ i, i < sk → listed.getD i false = true) → unl ops.length listed ≤ fuel →
      RS B N φ fp S (Stt os qs (fun i => listed.getD i false) ts0 m0 ops.length).1 (Stt os qs (fun i => listed.getD i false) ts0 m0 ops.length).2 a w → wpAny P .any ops.toArray Q fuel listed a w := by
  have hback : ∀ i o, ops[i]? = some o → ∀ p, p ∈ preds o → p < i := by
    intro i o ho p hp
    simp only [drawB, backB, Bool.and_eq_true, List.all_eq_true, List.mem_range] at hB
    have := hB.1 i (List.getElem?_eq_some_iff.1 ho).1
    rw [ho] at this
    simpa using List.all_eq_true.1 this p hp
  have hall : ∀ (listed : Array Bool), listed.size = ops.length → Region.ready .any ops.toArray listed = [] → ∀ i, i < ops.length → listed.getD i false = true := by
    intro listed hs hr i
    induction i using Nat.strongRecOn with
    | ind i ih =>
      intro hi
      cases hl : listed.getD i false with
      | true => rfl
      | false =>
        have ho : ops[i]? = some ops[i] := List.getElem?_eq_getElem hi
        have : i ∈ Region.ready .any ops.toArray listed := mem_ready.2 ⟨getD_in (by omega) hl, ops[i], by simpa using ho, fun e he hb => by
          have hp : e.on ∈ preds ops[i] := List.mem_map.2 ⟨e, List.mem_filter.2 ⟨by simpa using he, hb⟩, rfl⟩
          have hlt := hback i _ ho _ hp
          exact ih e.on hlt (by omega)⟩
        rw [hr] at this; cases this
  have hfin : ∀ (listed : Array Bool) (φ : Nat → LS) (fp : Nat → List Nat) (S : Nat → Prop) (a : Act) (w : World), (∀ i, i < ops.length → listed.getD i false = true) →
      RS B N φ fp S (Stt os qs (fun i => listed.getD i false) ts0 m0 ops.length).1 (Stt os qs (fun i => listed.getD i false) ts0 m0 ops.length).2 a w → Q .normal a w := by
    intro listed φ fp S a w hl h
    have e : Stt os qs (fun i => listed.getD i false) ts0 m0 ops.length = Stt os qs (fun _ => true) ts0 m0 ops.length := Stt_prefix ops.length (Nat.le_refl _) fun q hq => hl q hq
    rw [e] at h
    exact hQ a w ⟨φ, fp, S, _, _, h, hK⟩
  intro fuel
  induction fuel with
  | zero =>
    intro listed φ fp S a w hs hc hsk hf h
    have hl : ∀ i, i < ops.length → listed.getD i false = true := by
      intro i hi
      cases hl : listed.getD i false with
      | true => rfl
      | false =>
        have h0 : unl ops.length listed = 0 := Nat.le_zero.1 hf
        have := List.countP_eq_zero.1 h0 i (List.mem_range.2 hi)
        rw [hl] at this; exact absurd rfl this
    refine ⟨?_, hfin listed φ fp S a w hl h⟩
    cases hr : Region.ready .any ops.toArray listed with
    | nil => rfl
    | cons j r =>
      have hj : j ∈ Region.ready .any ops.toArray listed := by rw [hr]; exact List.mem_cons_self ..
      obtain ⟨h0, o, ho, _⟩ := mem_ready.1 hj
      have hjn : j < ops.length := by simpa using (Array.getElem?_eq_some_iff.1 ho).1
      have := hl j hjn
      rw [getD_both h0] at this; cases this
  | succ fuel ih =>
    intro listed φ fp S a w hs hc hsk hf h
    refine ⟨fun hr => hfin listed φ fp S a w (hall listed hs hr) h, fun j hj => ?_⟩
    obtain ⟨h0, o, ho, hpre⟩ := mem_ready.1 hj
    have hdj : listed.getD j false = false := getD_both h0
    have ho' : ops[j]? = some o := by simpa using ho
    have hjn : j < ops.length := (List.getElem?_eq_some_iff.1 ho').1
    have hp : ∀ i, i ∈ preds o → listed.getD i false = true := by
      intro i hi
      obtain ⟨e, he, rfl⟩ := List.mem_map.1 hi
      obtain ⟨he1, he2⟩ := List.mem_filter.1 he
      exact hpre e (by simpa using he1) he2
    obtain ⟨⟨rd, hya⟩, hlk, hlb⟩ := hR.turn (D := fun i => listed.getD i false) hB hc (fun i hi => by
      rcases Nat.lt_or_ge i listed.size with h' | h'
      · omega
      · rw [Array.getD_eq_getD_getElem?, Array.getElem?_eq_none h'] at hi; cases hi) hsk ho' hdj hp
    have hD' : (fun i => (listed.setIfInBounds j true).getD i false) = addD (fun i => listed.getD i false) j := by
      funext i
      by_cases e : i = j
      · subst e
        simp [addD, hs, hjn]
      · have e2 : (i == j) = false := by simpa using e
        rw [getD_set_ne false (Ne.symm e)]
        simp [addD, e2]
    have hf' : unl ops.length (listed.setIfInBounds j true) ≤ fuel := by
      have : unl ops.length (listed.setIfInBounds j true) < unl ops.length listed := by
        refine countP_lt _ j (List.mem_range.2 hjn) (by simp only [hdj]; rfl) (by simp [hs, hjn]) fun i hi => ?_
        by_cases e : i = j
        · subst e; rw [hdj]; rfl
        · rw [getD_set_ne false (Ne.symm e)] at hi; exact hi
      omega
    have next : ∀ a' w', Done B N (fun ts m => ts = putE o.dst (qs j).x (Stt os qs (fun i => listed.getD i false) ts0 m0 ops.length).1 ∧ m = (qs j).new ++ (Stt os qs (fun i => listed.getD i false) ts0 m0 ops.length).2) a' w' →
        wpAny P .any ops.toArray Q fuel (listed.setIfInBounds j true) a' w' := by
      rintro a' w' ⟨φ', fp', S', ts', m', h', rfl, rfl⟩
      refine ih _ φ' fp' S' a' w' (by simp [hs]) (by rw [hD']; exact hc.add ho' hp) (fun i hi => by
        by_cases e : i = j
        · subst e; simp [hs, hjn]
        · rw [getD_set_ne false (Ne.symm e)]; exact hsk i hi) hf' ?_
      rw [hD']
      exact h'.ext hlk hlb
    have hdo : ∀ d, o.dst = some d → d < N := by
      intro d hd
      have := List.all_eq_true.1 hok o (List.mem_of_getElem? ho')
      rw [hd] at this; simpa using this
    unfold wpOp
    simp only [ho]
    rcases hya with ⟨hw, _, hrun⟩ | ⟨hw, hx, hnew⟩
    · rw [wanted_of h hgs ho' hw]
      simp only [if_true]
      refine .inl (op_sound h (sOp_of_D (hrun _ (fun _ _ => rfl) (fun _ _ => rfl) (fun x m' => x = (qs j).x ∧ m' = (qs j).new ++ (Stt os qs (fun i => listed.getD i false) ts0 m0 ops.length).2) ⟨rfl, rfl⟩)) fun v w' hg => ?_)
      exact next _ _ (step_done hdo hg fun x m' ⟨h1, h2⟩ => ⟨by rw [h1], h2⟩)
    · rw [wanted_of h hgs ho' hw]
      simp only [Bool.false_eq_true, if_false]
      refine next _ _ (step_done (k := fun x m' => x = .tup [] ∧ m' = (Stt os qs (fun i => listed.getD i false) ts0 m0 ops.length).2) hdo (h.gives (x := .tup []) (.rd _ _ (.tup [] #[] rfl fun i hi => absurd hi (Nat.not_lt_zero _))) (fun _ _ hl => by cases hl) ⟨rfl, rfl, rfl⟩) fun x m' ⟨h1, h2⟩ => ⟨by rw [h1, hx], by rw [h2, hnew]; rfl⟩)

end
def wrL (m' m : Mem) : List Nat := (m'.take (m'.length - m.length)).map (·.1)
theorem wrL_new (new m : Mem) : wrL (new ++ m) m = new.map (·.1) := by
  unfold wrL
  rw [List.length_append, Nat.add_sub_cancel, List.take_left']
  rfl

def sD (P : Program) (ops : List Oper) : List Oper → Env → Mem → List (List Nat × List Nat) → St → Prop
  | [], ts, m, tr, k => drawB ops tr.reverse = true ∧ k ts m
  | o :: r, ts, m, tr, k => match o.guard with
    | none => sOpD P (o.dst.getD 0) o.op ts m fun x m' => sD P ops r (putE o.dst x ts) m' ((rdL o.op ts, wrL m' m) :: tr) k
    | some (j, want) => sGuard want (look ts (dstOf ops j)) (sOpD P (o.dst.getD 0) o.op ts m fun x m' => sD P ops r (putE o.dst x ts) m' ((rdL o.op ts, wrL m' m) :: tr) k)
        (sD P ops r (putE o.dst (.tup []) ts) m (([], []) :: tr) k)

theorem mem_keys {new : Mem} {l : Nat} (h : lookB new l ≠ none) : l ∈ new.map (·.1) := by
  induction new with
  | nil => exact absurd rfl h
  | cons p r ih =>
    obtain ⟨k, v⟩ := p
    rw [lookB_cons] at h
    by_cases e : k = l
    · simp [e]
    · rw [if_neg e] at h
      exact List.mem_cons_of_mem _ (ih h)

theorem Stt_qs {os : Nat → Oper} {qs qs' : Nat → Rec} {D : Nat → Bool} {ts : Env} {m : Mem} : ∀ (i : Nat), (∀ j, j < i → qs j = qs' j) → Stt os qs D ts m i = Stt os qs' D ts m i
  | 0, _ => rfl
  | i + 1, h => by simp only [Stt]; rw [Stt_qs i fun j hj => h j (by omega), h i (by omega)]

def Upto (P : Program) (sk : Nat) (ops : List Oper) (os : Nat → Oper) (qs : Nat → Rec) (tr : List (List Nat × List Nat)) (ts : Env) (m : Mem) (n : Nat) : Prop :=
  ∀ i o, sk ≤ i → i < n → ops[i]? = some o → ∃ t, tr[i]? = some t ∧ YA P ops o (qs i) t.1 (Stt os qs (fun _ => true) ts m i).1 (Stt os qs (fun _ => true) ts m i).2 ∧ ∀ l, l ∈ (qs i).new.map (·.1) → l ∈ t.2

theorem sD_out {P : Program} {sk : Nat} {ops : List Oper} {os : Nat → Oper} (hos : ∀ i o, sk ≤ i → ops[i]? = some o → os i = o) {ts0 : Env} {m0 : Mem} {K : St} :
    ∀ (r : List Oper) (i : Nat) (qs : Nat → Rec) (tr : List (List Nat × List Nat)) (ts : Env) (m : Mem), ops.drop i = r → sk ≤ i → i ≤ ops.length → tr.length = i → Stt os qs (fun _ => true) ts0 m0 i = (ts, m) → Upto P sk ops os qs tr.reverse ts0 m0 i → sD P ops r ts m tr K →
      ∃ qs' tr, Ran P sk ops os qs' tr ts0 m0 ∧ drawB ops tr = true ∧ K (Stt os qs' (fun _ => true) ts0 m0 ops.length).1 (Stt os qs' (fun _ => true) ts0 m0 ops.length).2 ∧ ∀ j, j < i → qs' j = qs j
  | [], i, qs, tr, ts, m, hl, hski, hin, ht, hs, hu, hk => by
    have hn : ops.length ≤ i := by
      have := congrArg List.length hl; simp at this; omega
    have e : i = ops.length := by omega
    subst e
    exact ⟨qs, tr.reverse, ⟨hos, fun j o hsj ho => hu j o hsj (List.getElem?_eq_some_iff.1 ho).1 ho⟩, hk.1, by rw [hs]; exact hk.2, fun _ _ => rfl⟩
  | o :: r, i, qs, tr, ts, m, hl, hski, hin, ht, hs, hu, hk => by
    have hi : i < ops.length := by
      have := congrArg List.length hl; simp at this; omega
    have hoi : ops[i]? = some o := by
      have := congrArg (·[0]?) hl
      simpa using this
    have hr : ops.drop (i + 1) = r := by
      have := congrArg List.tail hl
      simpa using this
    have go : ∀ (q : Rec) (t : List Nat × List Nat), YA P ops o q t.1 ts m → (∀ l, l ∈ q.new.map (·.1) → l ∈ t.2) → sD P ops r (putE o.dst q.x ts) (q.new ++ m) (t :: tr) K →
        ∃ qs' tr, Ran P sk ops os qs' tr ts0 m0 ∧ drawB ops tr = true ∧ K (Stt os qs' (fun _ => true) ts0 m0 ops.length).1 (Stt os qs' (fun _ => true) ts0 m0 ops.length).2 ∧ ∀ j, j < i → qs' j = qs j := by
      intro q t hya hnew hk
      have hq : ∀ j, j < i → qs j = (fun k => if k = i then q else qs k) j := fun j hj => by simp; intro e; omega
      have hst : ∀ j, j ≤ i → Stt os (fun k => if k = i then q else qs k) (fun _ => true) ts0 m0 j = Stt os qs (fun _ => true) ts0 m0 j := fun j hj => (Stt_qs j fun k hk => hq k (by omega)).symm
      suffices hh : ∃ qs' tr, Ran P sk ops os qs' tr ts0 m0 ∧ drawB ops tr = true ∧ K (Stt os qs' (fun _ => true) ts0 m0 ops.length).1 (Stt os qs' (fun _ => true) ts0 m0 ops.length).2 ∧ ∀ j, j < i + 1 → qs' j = (fun k => if k = i then q else qs k) j by
        obtain ⟨qs', tr', g1, g2, g3, g4⟩ := hh
        exact ⟨qs', tr', g1, g2, g3, fun j hj => (g4 j (by omega)).trans (hq j hj).symm⟩
      refine sD_out hos r (i + 1) (fun k => if k = i then q else qs k) (t :: tr) _ _ hr (by omega) hi (by simp [ht]) ?_ ?_ hk
      · simp only [Stt, if_true, hst i (Nat.le_refl _), hs, hos i o hski hoi]
      · intro j oj hsj hj hoj
        rw [hst j (by omega)]
        rw [List.reverse_cons]
        by_cases e : j = i
        · subst e
          rw [hoi] at hoj; injection hoj with hoj; subst hoj
          refine ⟨t, by rw [List.getElem?_append_right (by simp [ht])]; simp [ht], ?_, by simpa using hnew⟩
          rw [hs]
          simpa using hya
        · obtain ⟨t', h1, h2, h3⟩ := hu j oj hsj (by omega) hoj
          refine ⟨t', by rw [List.getElem?_append_left (by simp [ht]; omega)]; exact h1, ?_, ?_⟩
          · simpa [e] using h2
          · simpa [e] using h3
    have run : want1 ops o ts = some true → sOpD P (o.dst.getD 0) o.op ts m (fun x m' => sD P ops r (putE o.dst x ts) m' ((rdL o.op ts, wrL m' m) :: tr) K) →
        ∃ qs' tr, Ran P sk ops os qs' tr ts0 m0 ∧ drawB ops tr = true ∧ K (Stt os qs' (fun _ => true) ts0 m0 ops.length).1 (Stt os qs' (fun _ => true) ts0 m0 ops.length).2 ∧ ∀ j, j < i → qs' j = qs j := by
      intro hw hk
      obtain ⟨x, new, h1, h2⟩ := sOpD_det P _ _ _ _ _ hk
      refine go ⟨x, new⟩ (rdL o.op ts, wrL (new ++ m) m) (.inl ⟨hw, fun _ h => h, fun m' hm hm' k' hk' => h2 m' (fun l hl => hm l ?_) (fun l hl => hm' l (mem_keys hl)) k' hk'⟩) (fun l hl => by rw [wrL_new]; exact hl) h1
      obtain ⟨y, hy, ver, hv⟩ := hl
      exact List.mem_flatMap.2 ⟨y, hy, List.mem_map.2 ⟨(l, ver), hv, rfl⟩⟩
    cases hg : o.guard with
    | none =>
      simp only [sD, hg] at hk
      exact run (by simp [want1, hg]) hk
    | some jw =>
      obtain ⟨j, want⟩ := jw
      simp only [sD, hg] at hk
      unfold sGuard at hk
      split at hk
      · rename_i c hy
        by_cases hc : c = want
        · subst hc
          exact run (by simp [want1, hg, hy]) (hk.1 rfl)
        · exact go ⟨.tup [], []⟩ ([], []) (.inr ⟨by simp [want1, hg, hy, hc], rfl, rfl⟩) (fun l hl => by simp at hl) (hk.2 hc)
      · rename_i hy
        exact go ⟨.tup [], []⟩ ([], []) (.inr ⟨by simp [want1, hg, hy], rfl, rfl⟩) (fun l hl => by simp at hl) hk
      · exact hk.elim

theorem Later.draw {P : Program} {N i : Nat} {ops : List Oper} {ts : Env} {m : Mem} {Q : Post} {q : Pack (Code.region i ⟨ops⟩ true, Q)} (hm : P.follows .mixedOrders = true) (hok : (opsOk N ops && guardsOk N ops) = true)
    (h : sD P ops ops ts m [] (Q .normal)) : Later P N (.region i ⟨ops⟩ true) ts m Q q := by
  refine ⟨fun B φ fp S a w hRS => ?_⟩
  simp only [Bool.and_eq_true] at hok
  obtain ⟨qs, tr, hR, hB, hK, _⟩ := sD_out (os := fun i => (ops[i]?).getD default) (ts0 := ts) (m0 := m) (sk := 0) (fun i o _ ho => by simp [ho]) ops 0 (fun _ => ⟨.undef, []⟩) [] ts m rfl (Nat.le_refl _) (Nat.zero_le _) rfl rfl (fun i o _ hi => absurd hi (Nat.not_lt_zero _)) h
  refine wp_region_any hm ?_
  refine any_sound (B := B) (N := N) hR hB hok.1 hok.2 hK (fun a w hd => hd) _ _ φ fp S a _ (by simp) ?_ (fun i hi => absurd hi (Nat.not_lt_zero _)) ?_ ?_
  · intro j o _ hd
    have hd : (Array.replicate (List.toArray ops).size false).getD j false = true := hd
    rw [getD_replicate_false] at hd; cases hd
  · exact Nat.le_trans List.countP_le_length (by simp)
  · have e : (fun i => (Array.replicate (List.toArray ops).size false).getD i false) = fun _ => false := funext fun i => getD_replicate_false _ _
    have e2 := Stt_stop (os := fun i => (ops[i]?).getD default) (qs := qs) (D := fun _ => false) (ts := ts) (m := m) (j := 0) (fun _ _ => rfl) ops.length (Nat.zero_le _)
    show RS B N φ fp S (Stt _ qs (fun i => (Array.replicate (List.toArray ops).size false).getD i false) ts m ops.length).1 (Stt _ qs (fun i => (Array.replicate (List.toArray ops).size false).getD i false) ts m ops.length).2 a { w with drawn := w.drawn + 1 }
    rw [e, e2]
    exact hRS.sameHeap rfl ⟨rfl, rfl, rfl⟩

end Go.Vc


set_option linter.unusedVariables false
set_option linter.unusedSimpArgs false
set_option linter.unnecessarySimpa false
namespace Go.Vc

section
variable (P : Program) (d : Nat) (ts : Env) (m : Mem) (k : AV → Mem → Prop)
theorem sOp_move (x : Operand) : sOp P d (.move x) ts m k = k (ev ts x) m := rfl
theorem sOp_assign (x : Operand) : sOp P d (.assign x) ts m k = k (ev ts x) m := rfl
theorem sOp_pick (c a b : Operand) : sOp P d (.pick c a b) ts m k = sPick (ev ts c) (ev ts a) (ev ts b) fun v => k v m := rfl
theorem sOp_alloc (t : TypeId) : sOp P d (.alloc t) ts m k = sTI (tiOf P t) fun ti => sBox d ti.zero m k := rfl
theorem sOp_box (t : TypeId) (x : Operand) : sOp P d (.box t x) ts m k = sBox d (ev ts x) m k := rfl
theorem sOp_build (t : TypeId) (l : List (Nat × Operand)) : sOp P d (.build t ⟨l⟩) ts m k = sTI (tiOf P t) fun ti => sSt ti.kind (sBuild ti (l.map fun p => (p.1, ev ts p.2)) fun v => k v m) := rfl
theorem sOp_buildSlice (t : TypeId) (n : Nat) (l : List (Nat × Operand)) : sOp P d (.buildSlice t n ⟨l⟩) ts m k = sTI (tiOf P t) fun tt => sSl tt.kind (sTI (tiOf P tt.elem) fun ti => sBuildSliceX ti d n (l.map fun p => (p.1, ev ts p.2)) m k) := rfl
theorem sOp_load (t : TypeId) (x : Operand) : sOp P d (.load t x) ts m k = sTI (tiOf P t) fun ti => sLoadX ti.agg ti.size (ev ts x) m k := rfl
theorem sOp_store (t : TypeId) (p y : Operand) : sOp P d (.store t p y) ts m k = sTI (tiOf P t) fun ti => sStoreY ti.size (ev ts p) (ev ts y) m fun m' => k .undef m' := rfl
theorem sOp_nilCheck (x : Operand) : sOp P d (.nilCheck x) ts m k = sNil m (ev ts x) fun v => k v m := rfl
theorem sOp_binOp (op : BinOp) (t t2 : TypeId) (x y : Operand) : sOp P d (.binOp op t x y t2) ts m k = sTI (tiOf P t) fun ti => sBinS P t op (ev ts x) (ev ts y) (fun v => k v m) (sBinN op ti.kind (ev ts x) (ev ts y) (cst y) m fun v => k v m) := rfl
theorem sOp_not (t : TypeId) (x : Operand) : sOp P d (.unOp .not t x) ts m k = sNot (ev ts x) fun v => k v m := rfl
theorem sOp_neg (t : TypeId) (x : Operand) : sOp P d (.unOp .neg t x) ts m k = sNeg (ev ts x) fun v => k v m := rfl
theorem sOp_convert (s t : TypeId) (x : Operand) : sOp P d (.convert s t x) ts m k = sTI (tiOf P s) fun si => sTI (tiOf P t) fun ti => sConvY P si ti d (ev ts x) m k := rfl
theorem sOp_makeSlice (t : TypeId) (l c : Operand) : sOp P d (.makeSlice t l c) ts m k = sTI (tiOf P t) fun tt => sSl tt.kind (sTI (tiOf P tt.elem) fun ti => sMake ti d (ev ts l) (ev ts c) m k) := rfl
theorem sOp_slice (t : TypeId) (x : Operand) (lo hi : Option Operand) : sOp P d (.slice t x lo hi none) ts m k = sTI (tiOf P t) fun tt => sSlK P tt (ev ts x) (lo.map (ev ts)) (hi.map (ev ts)) m fun v => k v m := rfl
theorem sOp_fieldAddr (t : TypeId) (x : Operand) (f : Nat) : sOp P d (.fieldAddr t x f) ts m k = sTI (tiOf P t) fun ti => sFld ti.fields[f]? fun fd => 0 < fd.2.1 ∧ sField fd.1 m (ev ts x) fun v => k v m := rfl
theorem sOp_indexAddr (t : TypeId) (x i : Operand) : sOp P d (.indexAddr t x i) ts m k = sTI (tiOf P t) fun tt => sSl tt.kind (sTI (tiOf P tt.elem) fun ti => sIdxX ti.sh m (ev ts x) (ev ts i) fun v => k v m) := rfl
theorem sOp_index (t : TypeId) (x i : Operand) : sOp P d (.index t x i) ts m k = sTI (tiOf P t) fun tt => (match tt.kind with | .string => True | _ => False) ∧ sIndex (ev ts x) (ev ts i) fun v => k v m := rfl
theorem sOp_extract (x : Operand) (i : Nat) : sOp P d (.extract x i) ts m k = sTup i (ev ts x) fun v => k v m := rfl
theorem sOp_len (t : TypeId) (r : List TypeId) (x : Operand) : sOp P d (.call ⟨.builtin .len, ⟨[x]⟩, ⟨t :: r⟩⟩) ts m k = sTI (tiOf P t) fun ti => sLen ti.kind m (ev ts x) fun v => k v m := rfl
theorem sOp_max (tys : Array TypeId) (x y : Operand) : sOp P d (.call ⟨.builtin .max, ⟨[x, y]⟩, tys⟩) ts m k = sMax (ev ts x) (ev ts y) fun v => k v m := rfl
theorem sOp_min (tys : Array TypeId) (x y : Operand) : sOp P d (.call ⟨.builtin .min, ⟨[x, y]⟩, tys⟩) ts m k = sMin (ev ts x) (ev ts y) fun v => k v m := rfl
theorem sOp_min3 (tys : Array TypeId) (x y z : Operand) : sOp P d (.call ⟨.builtin .min, ⟨[x, y, z]⟩, tys⟩) ts m k = sMin (ev ts x) (ev ts y) fun u => sMin u (ev ts z) fun v => k v m := rfl
theorem sOp_append (tys : List TypeId) (x y : Operand) : sOp P d (.call ⟨.builtin .append, ⟨[x, y]⟩, ⟨tys⟩⟩) ts m k = sAppTX P tys d (ev ts x) (ev ts y) m k := rfl
theorem sOp_call (f : FuncId) (xs : List Operand) (tys : Array TypeId) : sOp P d (.call ⟨.value (.func f), ⟨xs⟩, tys⟩) ts m k = sCall P f d (xs.map (ev ts)) m k := rfl
theorem sOpD_move (x : Operand) : sOpD P d (.move x) ts m k = k (ev ts x) m := rfl
theorem sOpD_assign (x : Operand) : sOpD P d (.assign x) ts m k = k (ev ts x) m := rfl
theorem sOpD_pick (c a b : Operand) : sOpD P d (.pick c a b) ts m k = sPick (ev ts c) (ev ts a) (ev ts b) fun v => k v m := rfl
theorem sOpD_build (t : TypeId) (l : List (Nat × Operand)) : sOpD P d (.build t ⟨l⟩) ts m k = sTI (tiOf P t) fun ti => sSt ti.kind (sBuild ti (l.map fun p => (p.1, ev ts p.2)) fun v => k v m) := rfl
theorem sOpD_buildSlice (t : TypeId) (n : Nat) (l : List (Nat × Operand)) : sOpD P d (.buildSlice t n ⟨l⟩) ts m k = sTI (tiOf P t) fun tt => sSl tt.kind (sTI (tiOf P tt.elem) fun ti => sBuildSliceX ti d n (l.map fun p => (p.1, ev ts p.2)) m k) := rfl
theorem sOpD_load (t : TypeId) (x : Operand) : sOpD P d (.load t x) ts m k = sTI (tiOf P t) fun ti => sLoad ti.agg ti.size (ev ts x) m k := rfl
theorem sOpD_store (t : TypeId) (p y : Operand) : sOpD P d (.store t p y) ts m k = sTI (tiOf P t) fun ti => sStore ti.size (ev ts p) (ev ts y) m fun m' => k .undef m' := rfl
theorem sOpD_nilCheck (x : Operand) : sOpD P d (.nilCheck x) ts m k = sNil m (ev ts x) fun v => k v m := rfl
theorem sOpD_binOp (op : BinOp) (t t2 : TypeId) (x y : Operand) : sOpD P d (.binOp op t x y t2) ts m k = sTI (tiOf P t) fun ti => sBinS P t op (ev ts x) (ev ts y) (fun v => k v m) (sBin op ti.kind (ev ts x) (ev ts y) fun v => k v m) := rfl
theorem sOpD_not (t : TypeId) (x : Operand) : sOpD P d (.unOp .not t x) ts m k = sNot (ev ts x) fun v => k v m := rfl
theorem sOpD_convert (s t : TypeId) (x : Operand) : sOpD P d (.convert s t x) ts m k = sTI (tiOf P s) fun si => sTI (tiOf P t) fun ti => sConvY P si ti d (ev ts x) m k := rfl
theorem sOpD_slice (t : TypeId) (x : Operand) (lo hi : Option Operand) : sOpD P d (.slice t x lo hi none) ts m k = sTI (tiOf P t) fun tt => sSlK P tt (ev ts x) (lo.map (ev ts)) (hi.map (ev ts)) m fun v => k v m := rfl
theorem sOpD_fieldAddr (t : TypeId) (x : Operand) (f : Nat) : sOpD P d (.fieldAddr t x f) ts m k = sTI (tiOf P t) fun ti => sFld ti.fields[f]? fun fd => 0 < fd.2.1 ∧ sField fd.1 m (ev ts x) fun v => k v m := rfl
theorem sOpD_indexAddr (t : TypeId) (x i : Operand) : sOpD P d (.indexAddr t x i) ts m k = sTI (tiOf P t) fun tt => sSl tt.kind (sTI (tiOf P tt.elem) fun ti => sIdx ti.sh m (ev ts x) (ev ts i) fun v => k v m) := rfl
theorem sOpD_index (t : TypeId) (x i : Operand) : sOpD P d (.index t x i) ts m k = sTI (tiOf P t) fun tt => (match tt.kind with | .string => True | _ => False) ∧ sIndex (ev ts x) (ev ts i) fun v => k v m := rfl
theorem sOpD_extract (x : Operand) (i : Nat) : sOpD P d (.extract x i) ts m k = sTup i (ev ts x) fun v => k v m := rfl
theorem sOpD_len (t : TypeId) (r : List TypeId) (x : Operand) : sOpD P d (.call ⟨.builtin .len, ⟨[x]⟩, ⟨t :: r⟩⟩) ts m k = sTI (tiOf P t) fun ti => sLen ti.kind m (ev ts x) fun v => k v m := rfl
theorem sOpD_max (tys : Array TypeId) (x y : Operand) : sOpD P d (.call ⟨.builtin .max, ⟨[x, y]⟩, tys⟩) ts m k = sMax (ev ts x) (ev ts y) fun v => k v m := rfl
theorem sOpD_append (tys : List TypeId) (x y : Operand) : sOpD P d (.call ⟨.builtin .append, ⟨[x, y]⟩, ⟨tys⟩⟩) ts m k = sAppTX P tys d (ev ts x) (ev ts y) m k := rfl
theorem sOpD_call (f : FuncId) (xs : List Operand) (tys : Array TypeId) : sOpD P d (.call ⟨.value (.func f), ⟨xs⟩, tys⟩) ts m k = sCallD P f d (xs.map (ev ts)) m k := rfl
theorem sOpD_callv (t : Nat) (xs : List Operand) (tys : Array TypeId) : sOpD P d (.call ⟨.value (.tmp t), ⟨xs⟩, tys⟩) ts m k = sCallDV P (look ts t) d (xs.map (ev ts)) m k := rfl
def Br (c : Bool) (a b : Prop) (_ : Pack (a, b)) : Prop := (c = true → a) ∧ (c = false → b)
theorem Br_true (a b : Prop) {q : Pack (a, b)} : Br true a b q = a := by simp [Br]
theorem Br_false (a b : Prop) {q : Pack (a, b)} : Br false a b q = b := by simp [Br]
theorem Br.intro {c : Bool} {a b : Prop} {q : Pack (a, b)} (ha : c = true → a) (hb : c = false → b) : Br c a b q := ⟨ha, hb⟩
theorem sIf_eq' (c : Bool) (a b : Prop) : sIf (.val (.bool c)) a b = Br c a b ⟨⟩ := rfl
theorem sPick_eq' (c : Bool) (a b : AV) (k : AV → Prop) : sPick (.val (.bool c)) a b k = Br c (k a) (k b) ⟨⟩ := rfl
theorem sGuard_t' (c : Bool) (a b : Prop) : sGuard true (.val (.bool c)) a b = Br c a b ⟨⟩ := by simp [sGuard, Br]
theorem sGuard_f' (c : Bool) (a b : Prop) : sGuard false (.val (.bool c)) a b = Br c b a ⟨⟩ := by simp only [sGuard_f, Br]; exact propext and_comm
variable (ops : List Oper) (tr : List (List Nat × List Nat)) (K : St)
def goOn (r : List Oper) (_ : Pack (P, ops, r, d, ts, K)) (x : AV) (m' : Mem) : Prop := sL P ops r ((d, x) :: ts) m' K
def goQ (r : List Oper) (_ : Pack (P, ops, r, ts, K)) (_ : AV) (m' : Mem) : Prop := sL P ops r ts m' K
def goD (op : Op) (r : List Oper) (_ : Pack (P, ops, r, d, op, ts, m, tr, K)) (x : AV) (m' : Mem) : Prop := sD P ops r ((d, x) :: ts) m' ((rdL op ts, wrL m' m) :: tr) K
def goDQ (op : Op) (r : List Oper) (_ : Pack (P, ops, r, op, ts, m, tr, K)) (_ : AV) (m' : Mem) : Prop := sD P ops r ts m' ((rdL op ts, wrL m' m) :: tr) K
theorem sL_nil' : sL P ops [] ts m K = K ts m := rfl
theorem sL_plain' (op : Op) (ty : TypeId) (p : String) (e : Array Edge) (r : List Oper) : sL P ops (⟨some d, op, ty, p, e, none⟩ :: r) ts m K = sOp P d op ts m (goOn P d ts ops K r ⟨⟩) := rfl
theorem sL_quiet' (op : Op) (ty : TypeId) (p : String) (e : Array Edge) (r : List Oper) : sL P ops (⟨none, op, ty, p, e, none⟩ :: r) ts m K = sOp P 0 op ts m (goQ P ts ops K r ⟨⟩) := rfl
theorem sL_guard' (op : Op) (ty : TypeId) (p : String) (e : Array Edge) (j : Nat) (w : Bool) (r : List Oper) :
    sL P ops (⟨some d, op, ty, p, e, some (j, w)⟩ :: r) ts m K = sGuard w (look ts (dstOf ops j)) (sOp P d op ts m (goOn P d ts ops K r ⟨⟩)) (sL P ops r ((d, .tup []) :: ts) m K) := rfl
theorem sD_nil : sD P ops [] ts m tr K = (drawB ops tr.reverse = true ∧ K ts m) := rfl
theorem sD_plain (op : Op) (ty : TypeId) (p : String) (e : Array Edge) (r : List Oper) :
    sD P ops (⟨some d, op, ty, p, e, none⟩ :: r) ts m tr K = sOpD P d op ts m (goD P d ts m ops tr K op r ⟨⟩) := rfl
theorem sD_quiet (op : Op) (ty : TypeId) (p : String) (e : Array Edge) (r : List Oper) :
    sD P ops (⟨none, op, ty, p, e, none⟩ :: r) ts m tr K = sOpD P 0 op ts m (goDQ P ts m ops tr K op r ⟨⟩) := rfl
theorem sD_guard (op : Op) (ty : TypeId) (p : String) (e : Array Edge) (j : Nat) (w : Bool) (r : List Oper) :
    sD P ops (⟨some d, op, ty, p, e, some (j, w)⟩ :: r) ts m tr K = sGuard w (look ts (dstOf ops j)) (sOpD P d op ts m (goD P d ts m ops tr K op r ⟨⟩))
      (sD P ops r ((d, .tup []) :: ts) m (([], []) :: tr) K) := rfl
theorem goQ_undef1  (g : Nat × Blk) (m' : Mem) (r : List Oper) {q : Pack (P, ops, r, ts, K)} : goQ P ts ops K r q (.undef) (g :: m') = sL P ops r ts (g :: m') K := rfl
theorem goDQ_undef1  (g : Nat × Blk) (m' : Mem) (r : List Oper) (op : Op) {q : Pack (P, ops, r, op, ts, m, tr, K)} : goDQ P ts m ops tr K op r q (.undef) (g :: m') = sD P ops r ts (g :: m') ((rdL op ts, wrL (g :: m') m) :: tr) K := rfl
theorem goOn_val0 (v : Value)  (r : List Oper) {q : Pack (P, ops, r, d, ts, K)} : goOn P d ts ops K r q (.val v) [] = sL P ops r ((d, .val v) :: ts) [] K := rfl
theorem goD_val0 (v : Value)  (r : List Oper) (op : Op) {q : Pack (P, ops, r, d, op, ts, m, tr, K)} : goD P d ts m ops tr K op r q (.val v) [] = sD P ops r ((d, .val v) :: ts) [] ((rdL op ts, wrL [] m) :: tr) K := rfl
theorem goOn_val1 (v : Value) (g : Nat × Blk) (m' : Mem) (r : List Oper) {q : Pack (P, ops, r, d, ts, K)} : goOn P d ts ops K r q (.val v) (g :: m') = sL P ops r ((d, .val v) :: ts) (g :: m') K := rfl
theorem goD_val1 (v : Value) (g : Nat × Blk) (m' : Mem) (r : List Oper) (op : Op) {q : Pack (P, ops, r, d, op, ts, m, tr, K)} : goD P d ts m ops tr K op r q (.val v) (g :: m') = sD P ops r ((d, .val v) :: ts) (g :: m') ((rdL op ts, wrL (g :: m') m) :: tr) K := rfl
theorem goOn_arr0 (sh : Sh) (xs : List AV)  (r : List Oper) {q : Pack (P, ops, r, d, ts, K)} : goOn P d ts ops K r q (.arr sh xs) [] = sL P ops r ((d, .arr sh xs) :: ts) [] K := rfl
theorem goD_arr0 (sh : Sh) (xs : List AV)  (r : List Oper) (op : Op) {q : Pack (P, ops, r, d, op, ts, m, tr, K)} : goD P d ts m ops tr K op r q (.arr sh xs) [] = sD P ops r ((d, .arr sh xs) :: ts) [] ((rdL op ts, wrL [] m) :: tr) K := rfl
theorem goOn_arr1 (sh : Sh) (xs : List AV) (g : Nat × Blk) (m' : Mem) (r : List Oper) {q : Pack (P, ops, r, d, ts, K)} : goOn P d ts ops K r q (.arr sh xs) (g :: m') = sL P ops r ((d, .arr sh xs) :: ts) (g :: m') K := rfl
theorem goD_arr1 (sh : Sh) (xs : List AV) (g : Nat × Blk) (m' : Mem) (r : List Oper) (op : Op) {q : Pack (P, ops, r, d, op, ts, m, tr, K)} : goD P d ts m ops tr K op r q (.arr sh xs) (g :: m') = sD P ops r ((d, .arr sh xs) :: ts) (g :: m') ((rdL op ts, wrL (g :: m') m) :: tr) K := rfl
theorem goOn_agg0 (xs : List AV)  (r : List Oper) {q : Pack (P, ops, r, d, ts, K)} : goOn P d ts ops K r q (.agg xs) [] = sL P ops r ((d, .agg xs) :: ts) [] K := rfl
theorem goD_agg0 (xs : List AV)  (r : List Oper) (op : Op) {q : Pack (P, ops, r, d, op, ts, m, tr, K)} : goD P d ts m ops tr K op r q (.agg xs) [] = sD P ops r ((d, .agg xs) :: ts) [] ((rdL op ts, wrL [] m) :: tr) K := rfl
theorem goOn_agg1 (xs : List AV) (g : Nat × Blk) (m' : Mem) (r : List Oper) {q : Pack (P, ops, r, d, ts, K)} : goOn P d ts ops K r q (.agg xs) (g :: m') = sL P ops r ((d, .agg xs) :: ts) (g :: m') K := rfl
theorem goD_agg1 (xs : List AV) (g : Nat × Blk) (m' : Mem) (r : List Oper) (op : Op) {q : Pack (P, ops, r, d, op, ts, m, tr, K)} : goD P d ts m ops tr K op r q (.agg xs) (g :: m') = sD P ops r ((d, .agg xs) :: ts) (g :: m') ((rdL op ts, wrL (g :: m') m) :: tr) K := rfl
theorem goOn_tup0 (xs : List AV)  (r : List Oper) {q : Pack (P, ops, r, d, ts, K)} : goOn P d ts ops K r q (.tup xs) [] = sL P ops r ((d, .tup xs) :: ts) [] K := rfl
theorem goOn_tup1 (xs : List AV) (g : Nat × Blk) (m' : Mem) (r : List Oper) {q : Pack (P, ops, r, d, ts, K)} : goOn P d ts ops K r q (.tup xs) (g :: m') = sL P ops r ((d, .tup xs) :: ts) (g :: m') K := rfl
theorem goD_tup1 (xs : List AV) (g : Nat × Blk) (m' : Mem) (r : List Oper) (op : Op) {q : Pack (P, ops, r, d, op, ts, m, tr, K)} : goD P d ts m ops tr K op r q (.tup xs) (g :: m') = sD P ops r ((d, .tup xs) :: ts) (g :: m') ((rdL op ts, wrL (g :: m') m) :: tr) K := rfl
theorem goOn_ref1 (l v i n : Nat) (g : Nat × Blk) (m' : Mem) (r : List Oper) {q : Pack (P, ops, r, d, ts, K)} : goOn P d ts ops K r q (.ref l v i n) (g :: m') = sL P ops r ((d, .ref l v i n) :: ts) (g :: m') K := rfl
theorem goD_ref1 (l v i n : Nat) (g : Nat × Blk) (m' : Mem) (r : List Oper) (op : Op) {q : Pack (P, ops, r, d, op, ts, m, tr, K)} : goD P d ts m ops tr K op r q (.ref l v i n) (g :: m') = sD P ops r ((d, .ref l v i n) :: ts) (g :: m') ((rdL op ts, wrL (g :: m') m) :: tr) K := rfl
theorem goOn_ptr1 (l v i j : Nat) (g : Nat × Blk) (m' : Mem) (r : List Oper) {q : Pack (P, ops, r, d, ts, K)} : goOn P d ts ops K r q (.ptr l v i j) (g :: m') = sL P ops r ((d, .ptr l v i j) :: ts) (g :: m') K := rfl
theorem goD_ptr1 (l v i j : Nat) (g : Nat × Blk) (m' : Mem) (r : List Oper) (op : Op) {q : Pack (P, ops, r, d, op, ts, m, tr, K)} : goD P d ts m ops tr K op r q (.ptr l v i j) (g :: m') = sD P ops r ((d, .ptr l v i j) :: ts) (g :: m') ((rdL op ts, wrL (g :: m') m) :: tr) K := rfl
theorem goOn_eptr0 (sh : Sh) (xs : List AV) (i j : Nat)  (r : List Oper) {q : Pack (P, ops, r, d, ts, K)} : goOn P d ts ops K r q (.eptr sh xs i j) [] = sL P ops r ((d, .eptr sh xs i j) :: ts) [] K := rfl
theorem goD_eptr0 (sh : Sh) (xs : List AV) (i j : Nat)  (r : List Oper) (op : Op) {q : Pack (P, ops, r, d, op, ts, m, tr, K)} : goD P d ts m ops tr K op r q (.eptr sh xs i j) [] = sD P ops r ((d, .eptr sh xs i j) :: ts) [] ((rdL op ts, wrL [] m) :: tr) K := rfl
theorem goOn_eptr1 (sh : Sh) (xs : List AV) (i j : Nat) (g : Nat × Blk) (m' : Mem) (r : List Oper) {q : Pack (P, ops, r, d, ts, K)} : goOn P d ts ops K r q (.eptr sh xs i j) (g :: m') = sL P ops r ((d, .eptr sh xs i j) :: ts) (g :: m') K := rfl
theorem goD_eptr1 (sh : Sh) (xs : List AV) (i j : Nat) (g : Nat × Blk) (m' : Mem) (r : List Oper) (op : Op) {q : Pack (P, ops, r, d, op, ts, m, tr, K)} : goD P d ts m ops tr K op r q (.eptr sh xs i j) (g :: m') = sD P ops r ((d, .eptr sh xs i j) :: ts) (g :: m') ((rdL op ts, wrL (g :: m') m) :: tr) K := rfl
theorem goOn_clo1 (f : FuncId) (xs : List AV) (g : Nat × Blk) (m' : Mem) (r : List Oper) {q : Pack (P, ops, r, d, ts, K)} : goOn P d ts ops K r q (.clo f xs) (g :: m') = sL P ops r ((d, .clo f xs) :: ts) (g :: m') K := rfl
theorem goD_clo1 (f : FuncId) (xs : List AV) (g : Nat × Blk) (m' : Mem) (r : List Oper) (op : Op) {q : Pack (P, ops, r, d, op, ts, m, tr, K)} : goD P d ts m ops tr K op r q (.clo f xs) (g :: m') = sD P ops r ((d, .clo f xs) :: ts) (g :: m') ((rdL op ts, wrL (g :: m') m) :: tr) K := rfl
end
attribute [go_sem ↓] vc_skip vc_region vc_draw vc_seq vc_cond vc_block vc_loop vc_exit vc_ret sL_nil' sL_plain' sL_quiet'
attribute [go_sem ↓] sL_guard' sOp_move sOp_assign sOp_pick sOp_alloc sOp_box sOp_build sOp_buildSlice sOp_load sOp_store sOp_nilCheck sOp_binOp
attribute [go_sem ↓] sOp_not sOp_neg sOp_convert sOp_makeSlice sOp_slice sOp_fieldAddr sOp_indexAddr sOp_index sOp_extract sOp_len
attribute [go_sem ↓] sOp_max sOp_min sOp_min3 sOp_append sOp_call sOpD_move sOpD_assign sOpD_pick
attribute [go_sem ↓] sOpD_build sOpD_buildSlice sOpD_load sOpD_store sOpD_nilCheck sOpD_binOp sOpD_not sOpD_convert sOpD_slice
attribute [go_sem ↓] sOpD_fieldAddr sOpD_indexAddr sOpD_index sOpD_extract sOpD_len sOpD_max sOpD_append sOpD_callv
attribute [go_sem ↓] sOpD_call sD_nil sD_plain sD_quiet sD_guard
attribute [go_sem] goQ_undef1 goDQ_undef1 goOn_val0 goD_val0
attribute [go_sem] goOn_val1 goD_val1
attribute [go_sem] goOn_arr0 goD_arr0 goOn_arr1 goD_arr1 goOn_agg0 goD_agg0
attribute [go_sem] goOn_agg1 goD_agg1 goOn_tup0 goOn_tup1 goD_tup1
attribute [go_sem] goOn_ref1 goD_ref1
attribute [go_sem] goOn_ptr1 goD_ptr1 goOn_eptr0 goD_eptr0 goOn_eptr1 goD_eptr1
attribute [go_sem] goOn_clo1 goD_clo1
attribute [go_sem] Br_true Br_false sIf_eq' sPick_eq' sGuard_t' sGuard_f'
attribute [go_sem ↓] look_nil look_cons lookB_nil lookB_cons TI.sh_eq cAV_int cAV_bool cAV_string cAV_slice cAV_pointer cAV_nilIface
attribute [go_sem ↓] ev_tmp ev_const ev_func sTI_some sOpt_some sWrap_i64 sWrap_u8 sBin_int sBin_str
attribute [go_sem ↓] sBin_bne iB_add iB_sub iB_mul iB_quo iB_rem iB_eql iB_neq iB_lss iB_leq iB_gtr
attribute [go_sem ↓] iB_geq sB_add sB_eql sB_neq sNot_eq sNeg_eq sConv_int sMax_eq sMin_eq
attribute [go_sem ↓] sTup_eq sPart_agg sPart_cell sPart_val sPart_arr isFlat_val isFlat_agg isFlat_arr
attribute [go_sem ↓] isFlatL_nil isFlatL_cons sUndeep_flat sUndeep_no sLoadB_boxA sLoadB_box sLoadB_row sLoad_ptr sLoad_eptr
attribute [go_sem ↓] sLend_flat sLoadI_lend sLoadI_box sLoadX_ptr sLoadX_eptr sLive_box sLive_row sField_ptr
attribute [go_sem ↓] sField_eptr sLen_arr sLen_nil sLen_str sLen_ref sFld_some sIndex_eq sCells_agg sCells_val sCells_arr
attribute [go_sem ↓] sCells_ref setL_nil setL_cons sPut_agg sPut_cell sPut_val sStoreB_box sStoreB_rowV sStoreB_subV
attribute [go_sem ↓] sStoreB_rowA sStore_ptr sStoreR_box sStoreX_ref sStoreX_val sStoreX_agg
attribute [go_sem ↓] sFK_some sCellE_int sCellE_bool sAggE_nil sAggE_cons sEqR_neq sBinS_agg
attribute [go_sem ↓] sBinS_int sBinS_bool sBinS_string sBinS_nilIface sBinS_iface sBinS_arr sBox_eq
attribute [go_sem ↓] newVer_eq verOf_none sStoreYR2_row sStoreYR_box sStoreYR_flat
attribute [go_sem ↓] sStoreY_ref sStoreY_int sStoreY_bool sStoreY_agg
attribute [go_sem ↓] fits_agg fits_val fits_arr sMake_eq sSrcB_row sSrc_arr sSrc_ref
attribute [go_sem ↓] sAppB_row sApp1_ref sApp1_nil sAppSB_row sAppS_ref sAppS_nil sAppXB_deep sAppXB_flat
attribute [go_sem ↓] sAppX_ref sAppX_arr sAppZ_true sAppZ_false sBnd_none sBnd_some sSlice_str sSlice_arr
attribute [go_sem ↓] sFill_nil sFill_cons sBuild_eq sFillR_nil sFillR_cons sBuildSlice_eq sRowT_row sLeafT_ref sLeafT_val
attribute [go_sem ↓] sLeafT_arr sLeavesT_nil sLeavesT_cons sTree_clo sTree_ptr sTree_agg sTree_ref sTree_val sTree_arr sTrees_nil sTrees_cons
attribute [go_sem ↓] sMatL_arr sMatL_val sMats_nil sMats_cons sMatA_arr sMatA_val sMatTs_nil sMatTs_cons sMat_tup
attribute [go_sem ↓] sMat_agg sMat_arr sMat_val sCall_eq sGivB_row sGivL_ref
attribute [go_sem ↓] sGivL_val sGivL_arr sGivLs_nil sGivLs_cons sGivA_agg sGivA_ref sGivA_val sGivA_arr sGivs_nil sGivs_cons
attribute [go_sem ↓] sGivAs_nil sGivAs_cons sBuildSliceX_eq sSl_slice sSt_struct sNil_ptr sSlK_str sSlK_arr sIdxB_row
attribute [go_sem ↓] sIdx_arr sIdx_ref sSubI_sub sSubI_row sSubI_box sIdxX_val sIdxX_arr sIdxX_ref
attribute [go_sem ↓] sAppTX_eq sApp_eq sNilB_arr cst_const cst_tmp sIfc_en sIfc_ei
attribute [go_sem ↓] sBinN_eql sBinN_iface sBinN_int sBinN_bool sBinN_string sBytesL_nil sBytesL_cons
attribute [go_sem ↓] sBytes_arr isU8_eq sConvX_bytes sConvX_int sConvY_bytes sConvY_int
attribute [go_sem ↓] sGuard_u putE_some dstOf_cons dstOf_zero thn_normal thn_ret thn_exit blk_normal blk_ret blk_exit verIs_row
attribute [go_sem ↓] verIs_box refV_val refV_arr refV_ref
attribute [go_sem ↓] refV_ptr refC_nil refV1_val refV1_arr refV1_ref
attribute [go_sem ↓] refL_nil refL_cons leaf_val leaf_arr leaf_ref refA_clo refA_undef
attribute [go_sem ↓] refA_val refA_arr refA_ref refA_ptr refE_nil refE_cons refB_row refB_box refM_nil
attribute [go_sem ↓] refM_cons sameVer_rr sameVer_bb keepIo_eq refK_nil refK_cons refS_eq sCellRB_agg sCellR_ptr sResults_nil sResults_tmp
attribute [go_sem ↓] sResults_cell sOwnB_row sOwnL_val sOwnL_ref sOwnLs_nil sOwnLs_cons sOwnA_agg sOwnA_val sOwnA_ref sOwnAs_nil
attribute [go_sem ↓] sOwnAs_cons mkRes_one mkRes_nil mkRes_two fin_ret argsE_nil argsE_cons ioM_nil ioM_cons lookB_ioM sIo1_row
attribute [go_sem ↓] sIo1_box sIoB_nil sIoB_cons finM_ret sPos_cons sRen_ref sRen_val sRen_arr
attribute [go_sem ↓] sRenL_nil sRenL_cons sRenA_agg sRenA_ref sRenA_ptr sRenA_val sRenA_arr sRens_nil sRens_cons notIn_nil
attribute [go_sem ↓] notIn_cons sSel1_row sSel1_box sSel_nil sSel_cons putIo_cons putIo_nil lookB_putIo finI_normal finI_ret allHi_nil allHi_cons
attribute [go_sem ↓] hasB_some freeB_none rnsM_nil rnsM_cons rnsA_nil rnsA_cons rnsL_nil rnsL_cons rnsMb_nil rnsMb_cons rnsAb_nil rnsAb_cons
attribute [go_sem ↓] renOk_nil renOk_cons lowOk_nil lowOk_cons inF_nil inF_cons lowP_nil lowP_cons nl_int
attribute [go_sem ↓] nl_arr nlL_nil nlL_cons nlA_nil nlA_int nlA_bool nlA_string nlA_arr
attribute [go_sem ↓] nlAs_nil nlAs_cons nlT_tup nlT_agg nlT_nil nlT_int nlT_bool nlT_string nlT_arr ver_row ver_box
attribute [go_sem ↓] sCallD_eq sCallDV_clo
attribute [go_sem] sTI_some sOpt_some sWrap_i64 sWrap_u8 sBin_int sBin_str sBin_bne sB_add sB_eql
attribute [go_sem] sB_neq sNot_eq sNeg_eq sConv_int sMax_eq sMin_eq sTup_eq sPart_agg sPart_cell sPart_val sPart_arr
attribute [go_sem] sUndeep_flat sUndeep_no sLoadB_boxA sLoadB_box sLoadB_row sLoad_ptr sLoad_eptr
attribute [go_sem] sLend_flat sLoadI_lend sLoadI_box sLoadX_ptr sLoadX_eptr sLive_box sLive_row sField_ptr
attribute [go_sem] sField_eptr sLen_arr sLen_nil sLen_str sLen_ref sFld_some sIndex_eq sCells_agg sCells_val sCells_arr
attribute [go_sem] sCells_ref sPut_agg sPut_cell sPut_val sStoreB_box sStoreB_rowV sStoreB_subV sStoreB_rowA sStore_ptr
attribute [go_sem] sStoreR_box sStoreX_ref sStoreX_val sStoreX_agg sFK_some
attribute [go_sem] sCellE_int sCellE_bool sAggE_nil sAggE_cons sEqR_neq sBinS_agg sBinS_int sBinS_bool
attribute [go_sem] sBinS_string sBinS_nilIface sBinS_iface sBinS_arr sBox_eq
attribute [go_sem] sStoreYR2_row sStoreYR_box sStoreYR_flat sStoreY_ref sStoreY_int sStoreY_bool
attribute [go_sem] sStoreY_agg sMake_eq sSrcB_row sSrc_arr sSrc_ref
attribute [go_sem] sAppB_row sApp1_ref sApp1_nil sAppSB_row sAppS_ref sAppS_nil sAppXB_deep sAppXB_flat
attribute [go_sem] sAppX_ref sAppX_arr sAppZ_true sAppZ_false sBnd_none sBnd_some sSlice_str sSlice_arr
attribute [go_sem] sFill_nil sFill_cons sBuild_eq sFillR_nil sFillR_cons sBuildSlice_eq labs_val labs_arr
attribute [go_sem] labs_agg labsL_nil labsL_cons sRowT_row sLeafT_ref sLeafT_val sLeafT_arr sLeavesT_nil sLeavesT_cons
attribute [go_sem] sTree_clo sTree_ptr sTree_agg sTree_ref sTree_val sTree_arr sTrees_nil sTrees_cons sMatL_arr sMatL_val
attribute [go_sem] sMats_nil sMats_cons sMatA_arr sMatA_val sMatTs_nil sMatTs_cons sMat_tup sMat_agg sMat_arr sMat_val
attribute [go_sem] sCall_eq sGivB_row sGivL_ref sGivL_val sGivL_arr sGivLs_nil sGivLs_cons
attribute [go_sem] sGivA_agg sGivA_ref sGivA_val sGivA_arr sGivs_nil sGivs_cons sGivAs_nil sGivAs_cons sBuildSliceX_eq sSl_slice sSt_struct
attribute [go_sem] sNil_ptr sSlK_str sSlK_arr sIdxB_row sIdx_arr sIdx_ref sSubI_sub sSubI_row
attribute [go_sem] sSubI_box sIdxX_val sIdxX_arr sIdxX_ref sAppTX_eq sApp_eq sNilB_arr
attribute [go_sem] sIfc_en sIfc_ei sBinN_eql sBinN_iface sBinN_int sBinN_bool sBinN_string
attribute [go_sem] sBytesL_nil sBytesL_cons sBytes_arr sConvX_bytes sConvX_int
attribute [go_sem] sConvY_bytes sConvY_int sGuard_u sCellRB_agg sCellR_ptr sResults_nil sResults_tmp sResults_cell sOwnB_row
attribute [go_sem] sOwnL_val sOwnL_ref sOwnLs_nil sOwnLs_cons sOwnA_agg sOwnA_val sOwnA_ref sOwnAs_nil sOwnAs_cons sIo1_row
attribute [go_sem] sIo1_box sIoB_nil sIoB_cons sPos_cons sRen_ref sRen_val sRen_arr sRenL_nil sRenL_cons
attribute [go_sem] sRenA_agg sRenA_ref sRenA_ptr sRenA_val sRenA_arr sRens_nil sRens_cons sSel1_row sSel1_box sSel_nil
attribute [go_sem] sSel_cons sCallD_eq sCallDV_clo
attribute [go_sem] List.getElem?_cons_zero List.getElem?_cons_succ List.getElem?_nil List.map_cons List.map_nil List.length_cons List.length_nil List.drop_zero List.drop_succ_cons List.take_zero List.take_succ_cons List.take_nil List.drop_nil List.set_cons_zero List.set_cons_succ Nat.zero_add Nat.add_zero
attribute [go_sem] List.length_map List.getElem?_map Option.map_some Bool.true_and Bool.false_and
attribute [go_sem] is0 List.reverse_cons List.reverse_nil List.nil_append List.cons_append Bool.true_eq_false Bool.false_eq_true false_implies implies_true and_true true_and forall_const true_implies
attribute [go_sem] Nat.reduceEqDiff Nat.reduceLT Nat.reduceAdd Nat.reduceMul Nat.reduceLeDiff Int.reduceToNat
attribute [go_sem] Nat.le_refl Int.natCast_zero Int.toNat_natCast
end Go.Vc

set_option linter.unusedVariables false
set_option linter.unusedSimpArgs false
set_option linter.unnecessarySimpa false
namespace Go.Vc

def pick (L : List Nat) (ts : Env) : Env := L.map fun t => (t, look ts t)
theorem pick_nil (ts : Env) : pick [] ts = [] := rfl
theorem pick_cons (t : Nat) (L : List Nat) (ts : Env) : pick (t :: L) ts = (t, look ts t) :: pick L ts := rfl
def inD : List Nat → Nat → Bool
  | [], _ => false
  | d :: D, l => l == d || (l / 1000 == d + 1 || inD D l)
theorem inD_nil (l : Nat) : inD [] l = false := rfl
theorem inD_cons (d : Nat) (D : List Nat) (l : Nat) : inD (d :: D) l = (l == d || (l / 1000 == d + 1 || inD D l)) := rfl
def inE : List Nat → Nat → Bool
  | [], _ => false
  | d :: D, l => l == d || inE D l
theorem inE_nil (l : Nat) : inE [] l = false := rfl
theorem inE_cons (d : Nat) (D : List Nat) (l : Nat) : inE (d :: D) l = (l == d || inE D l) := rfl
def dropB (D E : List Nat) : Mem → Mem
  | [] => []
  | (l, b) :: r => if (inD D l || inE E l) = true then dropB D E r else (l, b) :: dropB D (l :: E) r
theorem dropB_nil (D E : List Nat) : dropB D E [] = [] := rfl
theorem dropB_cons (D E : List Nat) (l : Nat) (b : Blk) (r : Mem) : dropB D E ((l, b) :: r) = if (inD D l || inE E l) = true then dropB D E r else (l, b) :: dropB D (l :: E) r := rfl
theorem or_t_l (b : Bool) : (true || b) = true := rfl
theorem or_f_l (b : Bool) : (false || b) = b := rfl

section
variable {P : Program} {N : Nat} {ts : Env} {m : Mem}

theorem Later.up {body : Code} (L D E : List Nat) (n : Nat) (I : Nat → Prop) (up : Nat → Env) (um : Nat → Mem) {Q : Post} {q : Pack (Code.loop body, Q)} (h0 : I 0)
    (hr : refS ts m (up 0 ++ pick L ts) (um 0 ++ dropB D E m)) (hok : codeOk N body = true)
    (step : ∀ i, i < n → I i → vc P N body (up i ++ pick L ts) (um i ++ dropB D E m) (thn Q fun ts' m' => I (i + 1) ∧ refS ts' m' (up (i + 1) ++ pick L ts) (um (i + 1) ++ dropB D E m)))
    (stop : I n → vc P N body (up n ++ pick L ts) (um n ++ dropB D E m) (thn Q fun _ _ => False)) : Later P N (.loop body) ts m Q q :=
  Later.upto n I (fun i => (up i ++ pick L ts, um i ++ dropB D E m)) h0 hr hok step stop

theorem Later.lp {body : Code} {ι : Type} (L D E : List Nat) (I : ι → Prop) (up : ι → Env) (um : ι → Mem) (μ : ι → Nat) {Q : Post} {q : Pack (Code.loop body, Q)} (x0 : ι) (h0 : I x0)
    (hr : refS ts m (up x0 ++ pick L ts) (um x0 ++ dropB D E m)) (hok : codeOk N body = true)
    (step : ∀ x, I x → vc P N body (up x ++ pick L ts) (um x ++ dropB D E m) (thn Q fun ts' m' => ∃ y, I y ∧ μ y < μ x ∧ refS ts' m' (up y ++ pick L ts) (um y ++ dropB D E m))) : Later P N (.loop body) ts m Q q :=
  Later.loop I (fun i => (up i ++ pick L ts, um i ++ dropB D E m)) μ x0 h0 hr hok step
end
attribute [go_sem] rl_eq rnA_ref rnA_ptr rnA_agg rnA_tup rnA_clo rnA_undef rnA_val rnA_e0 rnA_arr rnA_eptr rnL_nil rnL_cons rnB_box rnB_row rnB_gone rnE_cons rnM_nil rnM_cons
attribute [go_sem] Nat.reduceLT true_or or_true or_false false_or pick_nil pick_cons inD_nil inD_cons inE_nil inE_cons dropB_nil dropB_cons or_t_l or_f_l Nat.reduceBEq Nat.reduceDiv beq_self_eq_true Bool.false_eq_true
end Go.Vc


set_option linter.unusedVariables false
set_option linter.unusedSimpArgs false
set_option linter.unnecessarySimpa false
namespace Go.Vc
open Go.RowKit (Below)
open Go.ChangeShapes Go.WideShapes Go.ChangeAt Go.Deep

theorem Grown.below {w w' : World} (h : Grown w w') : Below w.heap.size w w' := ⟨h.out.os, h.out.tape, h.out.output, h.size, h.same⟩

def CellsRd (w : World) (xs : List AV) (cs : List Value) : Prop := cs.length = xs.length ∧ ∀ i (h : i < xs.length), leaf xs[i] ∧ Rd w (Now w) xs[i] (cs.getD i Go.undef)

def Dec (P : Program) (t : TypeId) {α : Type} (ok : α → Prop) (f : α → List AV) : Prop :=
  ∀ (H : Type) (enc : TypeId × Value → H) (w : World) (base : Nat) (held : Bool) (fuel : Nat) (cs : List Value) (x : DataW H × List MemPlace),
    DataW.trod enc P w base (fun _ => true) held fuel t cs = some x → ∃ a, ok a ∧ CellsRd w (f a) cs

theorem CellsRd.one {w : World} {x : AV} {v : Value} (hl : leaf x) (h : Rd w (Now w) x v) : CellsRd w [x] [v] := ⟨rfl, fun i hi => by
  have : i = 0 := by simpa using hi
  subst this; exact ⟨hl, h⟩⟩

theorem Dec.u8 {P : Program} {t : TypeId} (ht : P.underlying t = some (.int .u8)) : Dec P t (fun _ => True) (fun n : UInt8 => [.val (.int .u8 n.toNat)]) := fun H enc w base held fuel cs x h => by
  obtain ⟨n, rfl, _, hw⟩ := DataW.trod_int ht h
  have hb := bounds_u8 hw
  refine ⟨UInt8.ofNat n.toNat, trivial, .one trivial ?_⟩
  have : ((UInt8.ofNat n.toNat).toNat : Int) = n := by simp; omega
  rw [this]; exact .val _ rfl
theorem list_of {α : Type} (g : Nat → Option α) : ∀ (len : Nat), (∀ i, i < len → ∃ b, g i = some b) → ∃ xs : List α, xs.length = len ∧ ∀ i (hi : i < xs.length), g i = some xs[i]
  | 0, _ => ⟨[], rfl, fun i hi => absurd hi (Nat.not_lt_zero _)⟩
  | k + 1, hg => by
    obtain ⟨xs, h1, h2⟩ := list_of g k fun i hi => hg i (by omega)
    obtain ⟨b, hb⟩ := hg k (by omega)
    refine ⟨xs ++ [b], by simp [h1], fun i hi => ?_⟩
    by_cases hik : i < xs.length
    · rw [List.getElem_append_left hik]; exact h2 i hik
    · have : i = k := by simp at hi; omega
      subst this
      rw [List.getElem_append_right (by omega)]; simp [h1, hb]

theorem add_block (a : Addr) (k : Nat) : (a.add k).block = a.block := by unfold Addr.add; split <;> rfl
theorem add_off (a : Addr) (k : Nat) : (a.add k).off = a.off + k := by
  unfold Addr.add; split
  · rename_i h; rw [h]; rfl
  · rfl

theorem cell_out {w : World} {a : Addr} {v : Value} (h : w.cell? a = some v) : ∃ cs e fr, w.heap[a.block]? = some (.cells cs e fr) ∧ cs[a.off]? = some v := by
  unfold World.cell? at h
  split at h
  · split at h
    · cases h
    · exact ⟨_, _, _, ‹_›, h⟩
  · cases h

def elOf (ag : Bool) (xs : List AV) : AV := if ag then .agg xs else xs.getD 0 .undef

theorem Dec.slice {P : Program} {t e : TypeId} {α : Type} {ok : α → Prop} {f : α → List AV} (ag : Bool) (n : Nat) (ht : P.underlying t = some (.slice e)) (hn : P.cellsOf e = n) (h0 : 0 < n) (hag : ag = false → n = 1)
    (hlen : ∀ a, (f a).length = n) (hd : Dec P e ok f) : Dec P t (fun xs : List α => xs.length ≤ maxLen ∧ ∀ a ∈ xs, ok a) (fun xs => [.arr ⟨n, ag⟩ (xs.map fun a => elOf ag (f a))]) := fun H enc w base held fuel cs x h => by
  rcases open_slice ht h with ⟨rfl, _⟩ | ⟨a, len, cap, m, n', D, Pl, rfl, hb, hl, hm, hmm, _, hel⟩
  · exact ⟨[], ⟨Nat.zero_le _, by simp⟩, .one trivial (.nil _ _)⟩
  · simp only [if_true] at hmm
    rw [hn, hmm] at hel
    clear hmm
    by_cases hc : cap = 0
    · subst hc
      have : len = 0 := by omega
      subst this
      exact ⟨[], ⟨Nat.zero_le _, by simp⟩, .one trivial (.nil _ _)⟩
    · -- the block
      have cellAt : ∀ i, i < cap → ∀ j, j < n → ∃ v, w.cell? (a.add (i * n + j)) = some v := by
        intro i hi j hj
        obtain ⟨cs', h1, _⟩ := hel i hi
        obtain ⟨_, h2, h3⟩ := World.cells?_some h1
        have := h3 j hj
        rw [add_add] at this
        exact ⟨cs'[j]'(by omega), by rw [this]; exact List.getElem?_eq_getElem (by omega)⟩
      obtain ⟨v00, h00⟩ := cellAt 0 (by omega) 0 h0
      have hsp : a.spot = none := by simpa [Addr.add] using World.cell?_spot h00
      obtain ⟨bcs, be, bfr, hheap, hoff0⟩ := cell_out h00
      have hheap : w.heap[a.block]? = some (.cells bcs be bfr) := by simpa [add_block] using hheap
      have hoff0 : bcs[a.off]? = some v00 := by simpa [add_off] using hoff0
      have cells : ∀ i, i < cap → ∀ j, j < n → ∀ v, w.cell? (a.add (i * n + j)) = some v → bcs[a.off + (i * n + j)]? = some v := by
        intro i hi j hj v hv
        obtain ⟨cs2, e2, fr2, g1, g2⟩ := cell_out hv
        have g1 : w.heap[a.block]? = some (.cells cs2 e2 fr2) := by simpa [add_block] using g1
        rw [hheap] at g1; cases g1
        simpa [add_off] using g2
      have size : ∀ i, i < cap → a.off + (i + 1) * n ≤ bcs.size := by
        intro i hi
        obtain ⟨v, hv⟩ := cellAt i hi (n - 1) (by omega)
        have := cells i hi (n - 1) (by omega) v hv
        have := (Array.getElem?_eq_some_iff.1 this).1
        rw [Nat.add_mul]; omega
      obtain ⟨g, hg⟩ : ∃ g : Nat → Option α, ∀ i, i < len → ∃ b, g i = some b ∧ ok b ∧ ∃ cs', w.cells? base (a.add (i * n)) n = some cs' ∧ CellsRd w (f b) cs' := by
        refine choose_lt (p := fun i (o : Option α) => ∃ b, o = some b ∧ ok b ∧ ∃ cs', w.cells? base (a.add (i * n)) n = some cs' ∧ CellsRd w (f b) cs') fun i hi => ?_
        obtain ⟨cs', h1, h2⟩ := hel i (by omega)
        obtain ⟨b, h3, h4⟩ := hd H enc w base held n' cs' _ h2
        exact ⟨some b, b, rfl, h3, cs', h1, h4⟩
      have hxs : ∃ xs : List α, xs.length = len ∧ ∀ i (hi : i < xs.length), g i = some xs[i] := by
        exact list_of g len fun i hi => by obtain ⟨b, hb, _⟩ := hg i hi; exact ⟨b, hb⟩
      obtain ⟨xs, hxl, hxs⟩ := hxs
      have hel2 : ∀ i (hi : i < xs.length), ok xs[i] ∧ ∃ cs', w.cells? base (a.add (i * n)) n = some cs' ∧ CellsRd w (f xs[i]) cs' := by
        intro i hi
        obtain ⟨b, h1, h2, h3⟩ := hg i (by omega)
        rw [hxs i hi] at h1; cases h1
        exact ⟨h2, h3⟩
      refine ⟨xs, ⟨by omega, fun b hb => ?_⟩, .one trivial ?_⟩
      · obtain ⟨i, hi, rfl⟩ := List.getElem_of_mem hb
        exact (hel2 i hi).1
      · have ea : a = ⟨a.block, a.off, none⟩ := by cases a; simp at hsp; subst hsp; rfl
        have hlen2 : (xs.map fun b => elOf ag (f b)).length = len := by simp [hxl]
        rw [ea, ← hlen2]
        refine .arr ⟨n, ag⟩ _ a.block a.off cap bcs be bfr (Array.getElem?_eq_some_iff.1 hheap).1 hheap (by omega) ?_ ?_ ?_
        · rw [hlen2]
          show a.off + len * n ≤ bcs.size
          by_cases h0l : len = 0
          · subst h0l
            have := size 0 (by omega)
            omega
          · have := size (len - 1) (by omega)
            rwa [show len - 1 + 1 = len by omega] at this
        · intro i hi
          rw [List.getElem_map]
          cases ag with
          | true => exact ⟨rfl, hlen _⟩
          | false =>
            have hi' : i < xs.length := by simpa using hi
            obtain ⟨_, cs', _, h2⟩ := hel2 i hi'
            have h1 := hlen xs[i]
            have := (h2.2 0 (by omega)).1
            have e1 : elOf false (f xs[i]) = (f xs[i])[0]'(by omega) := by simp [elOf, List.getD_eq_getElem?_getD, List.getElem?_eq_getElem (show 0 < (f xs[i]).length by omega)]
            rw [e1]
            have hn1 := hag rfl
            unfold fits
            split <;> first | (rename_i hh; rw [hh] at this; exact this.elim) | exact ⟨rfl, hn1⟩
        · intro i hi
          have hi' : i < xs.length := by simpa using hi
          rw [List.getElem_map]
          obtain ⟨_, cs', h1, h2⟩ := hel2 i hi'
          obtain ⟨_, h3, h4⟩ := World.cells?_some h1
          have hcell : ∀ j, j < n → bcs[a.off + (i * n + j)]? = cs'[j]? := by
            intro j hj
            have := h4 j hj
            rw [add_add] at this
            rw [List.getElem?_eq_getElem (by omega)] at this ⊢
            exact cells i (by omega) j hj _ this
          have hsz := size i (by omega)
          cases ag with
          | true =>
            have e2 : elemV bcs.toList (a.off + i * n) ⟨n, true⟩ = .agg cs'.toArray := by
              simp only [elemV, if_true]
              congr 2
              apply List.ext_getElem?
              intro j
              by_cases hj : j < n
              · rw [List.getElem?_take, if_pos hj, List.getElem?_drop, ← hcell j hj]; simp [Nat.add_assoc]
              · rw [List.getElem?_take, if_neg hj, List.getElem?_eq_none (by omega)]
            show Rd w (Now w) (elOf true (f xs[i])) (elemV bcs.toList (a.off + i * n) ⟨n, true⟩)
            rw [e2]
            exact .agg _ _ (by simpa using h2.1) (fun j hj => (h2.2 j hj).1) (fun j hj => (h2.2 j hj).2)
          | false =>
            have hn1 := hag rfl
            subst hn1
            have hl1 := hlen xs[i]
            have e2 : elemV bcs.toList (a.off + i * 1) ⟨1, false⟩ = cs'.getD 0 Go.undef := by
              simp only [elemV, Bool.false_eq_true, if_false, List.getD_eq_getElem?_getD]
              have := hcell 0 (by omega)
              rw [Nat.add_zero] at this
              rw [← this]; simp
            show Rd w (Now w) (elOf false (f xs[i])) (elemV bcs.toList (a.off + i * 1) ⟨1, false⟩)
            rw [e2]
            have e1 : elOf false (f xs[i]) = (f xs[i])[0]'(by omega) := by simp [elOf, List.getD_eq_getElem?_getD, List.getElem?_eq_getElem (show 0 < (f xs[i]).length by omega)]
            rw [e1]
            exact (h2.2 0 (by omega)).2

inductive Flds (P : Program) : List Field → Nat → {α : Type} → (α → Prop) → (α → List AV) → Prop
  | nil (o : Nat) : Flds P [] o (fun _ : Unit => True) (fun _ => [])
  | cons {α β : Type} {f : Field} {r : List Field} {o n : Nat} {ok : α → Prop} {g : α → List AV} {ok' : β → Prop} {g' : β → List AV} (ho : f.offset = o) (hn : P.cellsOf f.type = n) (hl : ∀ a, (g a).length = n) (hd : Dec P f.type ok g) (hr : Flds P r (o + n) ok' g') :
      Flds P (f :: r) o (fun p : α × β => ok p.1 ∧ ok' p.2) (fun p => g p.1 ++ g' p.2)

theorem Dec.arg {P : Program} {t : TypeId} {α : Type} {ok : α → Prop} {f : α → List AV} (h : Dec P t ok f) (ag : Bool) (hf : ∀ a, if ag then True else (f a).length = 1) {H : Type} {enc : TypeId × Value → H} {w : World} {base : Nat} {held : Bool} {v : Value} {d : DataW H} {ps : List MemPlace}
    (ht : DataW.Trod enc P w base (fun _ => true) held t v d ps) (hv : if ag then ∃ cs, v = .agg cs else v.cells = #[v]) : ∃ a, ok a ∧ Rd w (Now w) (elOf ag (f a)) v := by
  obtain ⟨fuel, hx⟩ := ht
  obtain ⟨a, h1, h2, h3⟩ := h H enc w base held fuel _ _ hx
  refine ⟨a, h1, ?_⟩
  cases ag with
  | true =>
    obtain ⟨cs, rfl⟩ := hv
    have e : (Value.agg cs).cells = cs := rfl
    rw [e] at h2 h3
    exact .agg _ _ (by simpa using h2) (fun i hi => (h3 i hi).1) (fun i hi => (h3 i hi).2)
  | false =>
    have hl : (f a).length = 1 := by simpa using hf a
    have hv : v.cells = #[v] := hv
    rw [hv] at h3
    have := (h3 0 (by omega)).2
    have e1 : elOf false (f a) = (f a)[0]'(by omega) := by simp [elOf, List.getD_eq_getElem?_getD, List.getElem?_eq_getElem (show 0 < (f a).length by omega)]
    rw [e1]; exact this

theorem Fn.law {P : Program} {f : FuncId} {args : List AV} {b : Bool} (h : Fn P f args true (· = .val (.bool b))) (W : World) (hkon : Kon W (Now W)) (vs : Array Value) (hs : vs.size = args.length)
    (hr : ∀ i (h : i < args.length), Rd W (Now W) args[i] (vs.toList.getD i Go.undef)) : Calls P f vs W fun e W' => e = .returned (.bool b) ∧ Below W.heap.size W W' := by
  refine (h.2 W (Now W) vs (fun _ hb => hb) hkon hs hr).mono fun e W' ⟨r, v, he, hx, hg, hres⟩ => ?_
  subst hx
  obtain ⟨fs, hown, _⟩ := hres
  have hv : v = .bool b := by
    cases hown with
    | rd _ _ h => cases h with | val _ _ => rfl
  subst hv
  exact ⟨he, hg.below⟩
end Go.Vc


set_option linter.unusedVariables false
set_option linter.unusedSimpArgs false
set_option linter.unnecessarySimpa false
namespace Go.Proofs.YtgdjpnahpanaoaaGreatDoor
open Go.Vc Go.ChangeShapes Go.WideShapes Go.ChangeAt Go.RowKit
set_option linter.unusedVariables false

theorem returnsAll {H : Type} {enc : TypeId × Value → H} {a : Assume} {C : Checked} {os : Os} {f : FuncId} {fn : Func} {s : ChangeSpec} {conds : List PathCond} {apart fresh handsOn again : Bool} {X : World → Array Value → Prop}
    (hX : ∀ (w w' : World) (args : Array Value), w.heap = w'.heap → X w args → X w' args)
    (own : ownKnob C.prog.godebug = none) (started : os.Started) (noInit : C.prog.inits.idxOf? f = none) (hfn : C.prog.funcs[f]? = some fn)
    (witness : ∃ (w : World) (tape : Tape) (i : Input), w.os = os ∧ (w.forCall tape i).Shaped C.prog ∧ i.vars = [] ∧ Input.okWide C.prog (w.forCall tape i) .any w.heap.size f i ∧
      ((s.pre enc C.prog fn conds apart (w.forCall tape i).memory i.args ∧ X (w.forCall tape i).memory i.args) ∧ sizedMet enc C.prog fn (OpenSpec.ofChange s) apart (w.forCall tape i).memory i.args) ∧ a.holds C.prog (lone (Frame.enter C.prog f i.args .normal) [] (w.forCall tape i)))
    (contract : ∀ (W : World) (base : Nat) (args : Array Value) (ds gs : List (DataW H)) (before : List MemPlace),
      (∀ (j : Nat) t v, fn.params[j]? = some t → args[j]? = some v → Value.okWide C.prog W .any base t v) →
      DataW.Whole enc C.prog fn.params.toList s.vars apart W args.toList ds gs before →
      conds.all (PathCond.test C.prog ⟨fn.params.toList, ds, s.plain.varTypes C.prog, gs⟩) = true →
      (DataW.weightsEach C.prog (fn.params.toList ++ s.plain.varTypes C.prog) (ds ++ gs)).all (· ≤ reachBytes) = true → X W args → W.ShapedOpen C.prog →
      a.holds C.prog (lone (Frame.enter C.prog f args .normal) [] W) →
      Calls C.prog f args W fun e W' => ∃ v, e = .returned v ∧ s.post enc C.prog fn apart fresh handsOn again W args v W') :
    ReturnsInHanded a C os f .any (fun w args => (s.pre enc C.prog fn conds apart w args ∧ X w args) ∧ sizedMet enc C.prog fn (OpenSpec.ofChange s) apart w args) (s.post enc C.prog fn apart fresh handsOn again) := by
  refine returnsInHanded_of_calls own started noInit witness ?_
  intro w tape i _ hsh _ hok hpre hholds
  obtain ⟨_, _, _, fn', hfn', _, _, _, _, hval⟩ := hok
  have e : fn' = fn := Option.some.inj (hfn'.symm.trans hfn)
  subst e
  obtain ⟨⟨⟨ds, gs, before, hw, hc⟩, hx⟩, hz⟩ := hpre
  have hw' := DataW.Whole.of_heap (w' := w.forCall tape i) (by rfl) hw
  refine (contract (w.forCall tape i) w.heap.size i.args ds gs before hval hw' hc (hz.weights hw) (hX _ _ _ (by rfl) hx) hsh hholds).mono fun e W' ⟨v, he, hp⟩ => ?_
  subst he
  exact ChangeSpec.post_blind hp

theorem own : ownKnob Tryz.prog.godebug = none := by kernel_rfl
theorem laidOut : laidOutB Tryz.prog = true := by kernel_rfl

theorem kon_of_var {P : Program} {W : World} {n : String} {g : Nat} {cs : Array Value} (hg : P.globalNamed n = some g) (h : W.var? P n = some cs) : Now W g ∧ ∃ e fr, W.heap[g]? = some (.cells cs e fr) := by
  unfold World.var? at h
  rw [hg] at h
  simp only [Option.bind_some] at h
  rcases h1 : W.heap[g]? with _ | o
  · rw [h1] at h; cases h
  · rw [h1] at h
    refine ⟨(Array.getElem?_eq_some_iff.1 h1).1, ?_⟩
    cases o <;> simp at h
    subst h
    exact ⟨_, _, rfl⟩
theorem kon_of_shape {P : Program} {W : World} {g : Nat} {t : TypeId} {zero : Array Value} (h : W.ShapedOpen P) (hg : g < P.globals.size)
    (h0 : ((begin P (fun _ _ => 0) default).world.heap[g]?).bind Obj.row? = some (zero, t)) (hz : zero.size = 1)
    (hb : P.buildable t = true) (hc : P.cellTypes P.depth t = some [t]) (hu : P.underlying t = some (.int .i64)) : Now W g ∧ ∃ cs e fr, W.heap[g]? = some (.cells cs e fr) ∧ kInt cs := by
  obtain ⟨m, hm⟩ := cell_of_shapedOpen_int h hg h0 hz hb hc hu
  obtain ⟨cs, hh, hs, _⟩ := h.1 g zero t hg h0
  have hsz : cs.size = 1 := hs.trans hz
  refine ⟨(Array.getElem?_eq_some_iff.1 hh).1, cs, _, _, hh, m, ?_⟩
  have h1 : cs[0]? = some (.int .i64 m) := by simpa [World.cell?, hh] using hm
  obtain ⟨l⟩ := cs
  match l, hsz, h1 with
  | [x], _, h1 => simp at h1; subst h1; rfl

def laidTabs : List (String × DataW Unit) := [("math/bits.deBruijn32tab", Rows.laid_math_bits_deBruijn32tab), ("math/bits.deBruijn64tab", Rows.laid_math_bits_deBruijn64tab), ("internal/strconv.uint64pow10", Rows.laid_internal_strconv_uint64pow10)]
theorem pow10_eq {H : Type} : (Rows.laid_internal_strconv_uint64pow10 : DataW H) = Lib.tabData .u64 ((List.range 20).map fun i => ((10 ^ i : Nat) : Int)) := rfl
theorem kon_pow {W : World} {r : List (String × DataW Unit)} (h : laidMet Tryz.prog (("internal/strconv.uint64pow10", Rows.laid_internal_strconv_uint64pow10) :: r) W) :
    Now W 1 ∧ ∃ cs e fr, W.heap[1]? = some (.cells cs e fr) ∧ kTab cs := by
  rw [pow10_eq] at h
  have h1 := Lib.tabIs_of_head (g := 1) (by kernel_rfl) (by kernel_rfl) Tryz.underlying251 Tryz.underlying202 (by kernel_rfl) (by kernel_rfl) h
  obtain ⟨a, e, fr, h2⟩ := kon_of_var (by kernel_rfl) h1
  refine ⟨a, _, e, fr, h2, ?_⟩
  unfold kTab
  rw [List.map_map]
  rfl
theorem kon_sent {W : World} {n : String} {g : Nat} {t : TypeId} {a : Option Addr} (hg : Tryz.prog.globalNamed n = some g) (h : W.var? Tryz.prog n = some #[.iface t (.pointer a)]) :
    Now W g ∧ ∃ cs e fr, W.heap[g]? = some (.cells cs e fr) ∧ kIfc cs := by
  obtain ⟨a, e, fr, h2⟩ := kon_of_var hg h
  exact ⟨a, _, e, fr, h2, _, _, rfl⟩
def laidAll : List (String × DataW Unit) := laidTabs ++ [("unicode/utf8.acceptRanges", Rows.laid_unicode_utf8_acceptRanges), ("strconv.ErrRange", Rows.laid_strconv_ErrRange), ("strconv.ErrSyntax", Rows.laid_strconv_ErrSyntax), ("unicode/utf8.first", Rows.laid_unicode_utf8_first)]
theorem shaped_laidAll (os : Os) (args : Array Value) : ((World.laidAll Tryz.prog os laidAll).forCall (fun _ _ => 0) ⟨#[], args, []⟩).Shaped Tryz.prog :=
  World.shaped_of_ZipB (by kernel_rfl) (by kernel_rfl)
theorem met_laidAll (os : Os) (args : Array Value) : laidMetH Tryz.prog laidAll ((World.laidAll Tryz.prog os laidAll).forCall (fun _ _ => 0) ⟨#[], args, []⟩).memory := by
  rw [MakeChecks.laidMetH_plain _ _ _ (by kernel_rfl)]; exact laidMet_laidAll _ (by kernel_rfl) (by kernel_rfl)
theorem star : "*" ++ "errors.errorString" = "*errors.errorString" := by decide
theorem rowErr (u : TypeId) (h : Tryz.prog.typeName? 3 u = some "*errors.errorString") : u = 287 :=
  typeName_ptr_named (nm := "errors.errorString") (by rw [star]; kernel_rfl) (by kernel_rfl) (by decide) u (by rw [star]; exact h)
theorem kon_all {W : World} (h : laidMetH Tryz.prog laidAll W) (hs : W.ShapedOpen Tryz.prog) : Kon W (Now W) := by
  rw [MakeChecks.laidMetH_plain _ _ _ (by kernel_rfl)] at h
  have h1 : laidMet Tryz.prog (("internal/strconv.uint64pow10", Rows.laid_internal_strconv_uint64pow10) :: _) W := h.tail.tail
  have h2 : laidMet Tryz.prog (("strconv.ErrRange", Rows.laid_strconv_ErrRange) :: _) W := h1.tail.tail
  have h3 : laidMet Tryz.prog (("strconv.ErrSyntax", Rows.laid_strconv_ErrSyntax) :: _) W := h2.tail
  obtain ⟨a1, s1, v1, _⟩ := laid_sentinel (g := 5) h2 (by kernel_rfl) (by kernel_rfl) Tryz.underlying134 rowErr Tryz.underlying287 Tryz.underlying289 rfl rfl Tryz.underlying9 (by kernel_rfl) (by kernel_rfl)
  obtain ⟨a2, s2, v2, _⟩ := laid_sentinel (g := 4) h3 (by kernel_rfl) (by kernel_rfl) Tryz.underlying134 rowErr Tryz.underlying287 Tryz.underlying289 rfl rfl Tryz.underlying9 (by kernel_rfl) (by kernel_rfl)
  intro g p hg
  simp only [kons, List.mem_cons, Prod.mk.injEq, List.not_mem_nil, or_false] at hg
  rcases hg with ⟨rfl, rfl⟩ | ⟨rfl, rfl⟩ | ⟨rfl, rfl⟩ | ⟨rfl, rfl⟩
  · exact kon_of_shape (zero := #[.int .i64 0]) hs (of_decide_eq_true (by kernel_rfl)) (by kernel_rfl) (by kernel_rfl) (by kernel_rfl) (by kernel_rfl) Tryz.underlying3
  · exact kon_pow h1
  · exact kon_sent (by kernel_rfl) v2
  · exact kon_sent (by kernel_rfl) v1
end Go.Proofs.YtgdjpnahpanaoaaGreatDoor


set_option linter.unusedVariables false
set_option linter.unusedSimpArgs false
set_option linter.unnecessarySimpa false
namespace Go.Vc

def soloB (ops : List Oper) (n : Nat) : Bool := backB ops && (List.range ops.length).all fun j => decide (j < n) || (List.range j).all fun i => ((ancsGo ops []).getD j []).contains i

section
variable {P : Program} {B : Base} {N : Nat} {φ : Nat → LS} {fp : Nat → List Nat} {S : Nat → Prop} {ts : Env} {m : Mem} {a : Act} {w : World}
variable {os : Nat → Oper} {qs : Nat → Rec} {D D' : Nat → Bool} {ops : List Oper} {tr : List (List Nat × List Nat)}

theorem solo_out {n : Nat} (h : soloB ops n = true) (hD : Closed ops D) {j : Nat} (hj : j < ops.length) (hn : n ≤ j) (hd : D j = true) : ∀ i, i < j → D i = true := by
  intro i hi
  simp only [soloB, Bool.and_eq_true, List.all_eq_true, List.mem_range, Bool.or_eq_true, decide_eq_true_eq, List.contains_eq_mem] at h
  rcases h.2 j hj with h1 | h1
  · omega
  · exact ancsGo_closed hD ops [] rfl (fun j x hx => by simp at hx) j i (h1 i hi) hd

theorem back_of {n : Nat} (h : soloB ops n = true) : ∀ i o, ops[i]? = some o → ∀ p, p ∈ preds o → p < i := by
  intro i o ho p hp
  simp only [soloB, backB, Bool.and_eq_true, List.all_eq_true, List.mem_range] at h
  have := h.1 i (List.getElem?_eq_some_iff.1 ho).1
  rw [ho] at this
  simpa using List.all_eq_true.1 this p hp

def Upk (ops : List Oper) (k : Nat) (listed : Array Bool) : Prop := listed.size = ops.length ∧ ∀ i, i < ops.length → listed.getD i false = decide (i < k)

theorem tail_sound {n : Nat} (hs : soloB ops n = true) (hok : opsOk N ops = true) (hgs : guardsOk N ops = true) {Q : Exit → Act → World → Prop} {K : St} (hQ : ∀ a w, Done B N K a w → Q .normal a w) :
    ∀ (c k fuel : Nat) (listed : Array Bool) (φ : Nat → LS) (fp : Nat → List Nat) (S : Nat → Prop) (ts : Env) (m : Mem) (a : Act) (w : World), c = ops.length - k → n ≤ k → k ≤ ops.length → Upk ops k listed → ops.length - k ≤ fuel →
      RS B N φ fp S ts m a w → sL P ops (ops.drop k) ts m K → wpAny P .any ops.toArray Q fuel listed a w := by
  intro c
  induction c with
  | zero =>
    intro k fuel listed φ fp S ts m a w hc hnk hk hu hf h hsl
    have hkl : k = ops.length := by omega
    subst hkl
    rw [List.drop_length] at hsl
    have hfin : Q .normal a w := hQ a w ⟨φ, fp, S, ts, m, h, hsl⟩
    have hr : Region.ready .any ops.toArray listed = [] := by
      cases hr : Region.ready .any ops.toArray listed with
      | nil => rfl
      | cons j r =>
        have hj : j ∈ Region.ready .any ops.toArray listed := by rw [hr]; exact List.mem_cons_self ..
        obtain ⟨h0, o, ho, _⟩ := mem_ready.1 hj
        have hjn : j < ops.length := by simpa using (Array.getElem?_eq_some_iff.1 ho).1
        have := hu.2 j hjn
        rw [getD_both h0] at this
        simp at this; omega
    cases fuel with
    | zero => exact ⟨hr, hfin⟩
    | succ fuel => exact ⟨fun _ => hfin, fun i hi => by rw [hr] at hi; cases hi⟩
  | succ c ih =>
    intro k fuel listed φ fp S ts m a w hc hnk hk hu hf h hsl
    have hkl : k < ops.length := by omega
    have hok1 : ops[k]? = some ops[k] := List.getElem?_eq_getElem hkl
    rw [List.drop_eq_getElem_cons hkl] at hsl
    generalize ops[k] = o at hok1 hsl
    obtain ⟨fuel, rfl⟩ : ∃ f, fuel = f + 1 := ⟨fuel - 1, by omega⟩
    have hclosed : Closed ops (fun i => listed.getD i false) := by
      intro j oj hoj hdj i hi
      have hjn := (List.getElem?_eq_some_iff.1 hoj).1
      have h1 := hu.2 j hjn
      have h2 := back_of hs j oj hoj i hi
      have h3 := hu.2 i (by omega)
      simp only at hdj ⊢
      rw [h1] at hdj
      rw [h3]
      simp at hdj ⊢; omega
    have hready : k ∈ Region.ready .any ops.toArray listed := by
      refine mem_ready.2 ⟨?_, o, by simpa using hok1, fun e he hb => ?_⟩
      · have h5 : listed.getD k false = false := by rw [hu.2 k hkl]; exact decide_eq_false (Nat.lt_irrefl k)
        exact getD_in (by rw [hu.1]; exact hkl) h5
      · have hp : e.on ∈ preds o := List.mem_map.2 ⟨e, List.mem_filter.2 ⟨by simpa using he, hb⟩, rfl⟩
        have hlt := back_of hs k o hok1 _ hp
        rw [hu.2 e.on (by omega)]; simpa using hlt
    refine ⟨fun hr => (by rw [hr] at hready; exact absurd hready List.not_mem_nil), fun j hj => ?_⟩
    obtain ⟨h0, oj, hoj, hpre⟩ := mem_ready.1 hj
    have hdj : listed.getD j false = false := getD_both h0
    have hoj' : ops[j]? = some oj := by simpa using hoj
    have hjn : j < ops.length := (List.getElem?_eq_some_iff.1 hoj').1
    have hjk : k ≤ j := by
      have := hu.2 j hjn
      rw [hdj] at this; simp at this; omega
    have hp : ∀ i, i ∈ preds oj → listed.getD i false = true := by
      intro i hi
      obtain ⟨e, he, rfl⟩ := List.mem_map.1 hi
      obtain ⟨he1, he2⟩ := List.mem_filter.1 he
      exact hpre e (by simpa using he1) he2
    have e : j = k := by
      rcases Nat.lt_or_ge k j with hlt | hge
      · have hadd := hclosed.add hoj' hp
        have := solo_out hs hadd hjn (by omega) (by simp [addD]) k hlt
        simp only [addD, hu.2 k hkl, Bool.or_eq_true, beq_iff_eq] at this
        simp at this; omega
      · omega
    subst e
    rw [hok1] at hoj'
    injection hoj' with hoj'
    subst hoj'
    have hup : Upk ops (j + 1) (listed.setIfInBounds j true) := by
      refine ⟨by simp [hu.1], fun i hi => ?_⟩
      by_cases e : i = j
      · subst e; simp [hu.1, hi]
      · rw [getD_set_ne false (Ne.symm e), hu.2 i hi]
        simp; omega
    have hdo : ∀ d, o.dst = some d → d < N := by
      intro d hd
      have := List.all_eq_true.1 hok o (List.mem_of_getElem? hok1)
      rw [hd] at this; simpa using this
    have next : ∀ a' w', Done B N (fun ts m => sL P ops (ops.drop (j + 1)) ts m K) a' w' → wpAny P .any ops.toArray Q fuel (listed.setIfInBounds j true) a' w' := by
      rintro a' w' ⟨φ', fp', S', ts', m', h', hk'⟩
      exact ih (j + 1) fuel _ φ' fp' S' ts' m' a' w' (by omega) (by omega) (by omega) hup (by omega) h' hk'
    unfold wpOp
    have hoA : ops.toArray[j]? = some o := by simpa using hok1
    simp only [hoA]
    simp only [sL] at hsl
    cases hg : o.guard with
    | none =>
      rw [hg] at hsl
      rw [wanted_of h hgs hok1 (show want1 ops o ts = some true by simp [want1, hg])]
      simp only [if_true]
      exact .inl (op_sound h hsl fun v w' hgv => next _ _ (step_done hdo hgv fun x m' hx => hx))
    | some jw =>
      obtain ⟨g, want⟩ := jw
      rw [hg] at hsl
      simp only at hsl
      unfold sGuard at hsl
      split at hsl
      · rename_i c hy
        by_cases hcw : c = want
        · subst hcw
          rw [wanted_of h hgs hok1 (show want1 ops o ts = some true by simp [want1, hg, hy])]
          simp only [if_true]
          exact .inl (op_sound h (hsl.1 rfl) fun v w' hgv => next _ _ (step_done hdo hgv fun x m' hx => hx))
        · rw [wanted_of h hgs hok1 (show want1 ops o ts = some false by simp [want1, hg, hy, hcw])]
          simp only [Bool.false_eq_true, if_false]
          have hk2 := hsl.2 hcw
          refine next _ _ (step_done (k := fun x m' => x = .tup [] ∧ m' = m) hdo (h.gives (x := .tup []) (.rd _ _ (.tup [] #[] rfl fun i hi => absurd hi (Nat.not_lt_zero _))) (fun _ _ hl => by cases hl) ⟨rfl, rfl, rfl⟩) fun x m' ⟨h1, h2⟩ => ?_)
          rw [h1, h2]; exact hk2
      · rename_i hy
        rw [wanted_of h hgs hok1 (show want1 ops o ts = some false by simp [want1, hg, hy])]
        simp only [Bool.false_eq_true, if_false]
        refine next _ _ (step_done (k := fun x m' => x = .tup [] ∧ m' = m) hdo (h.gives (x := .tup []) (.rd _ _ (.tup [] #[] rfl fun i hi => absurd hi (Nat.not_lt_zero _))) (fun _ _ hl => by cases hl) ⟨rfl, rfl, rfl⟩) fun x m' ⟨h1, h2⟩ => ?_)
        rw [h1, h2]; exact hsl
      · exact hsl.elim

theorem count_ge {f : Nat → Bool} {n : Nat} : ∀ N, (∀ i, n ≤ i → i < N → f i = true) → N - n ≤ (List.range N).countP f
  | 0, _ => by omega
  | N + 1, h => by
    rw [List.range_succ, List.countP_append]
    have := count_ge (f := f) (n := n) N fun i h1 h2 => h i h1 (by omega)
    by_cases e : n ≤ N
    · have h1 := h N e (by omega)
      have h2 : List.countP f [N] = 1 := by simp [h1]
      omega
    · omega

theorem take_get {n i : Nat} (h : i < n) : (ops.take n)[i]? = ops[i]? := by rw [List.getElem?_take]; simp [h]
def gLow (n : Nat) (ops : List Oper) : Bool := (ops.take n).all fun o => match o.guard with | some (j, _) => decide (j < n) | none => true
theorem want1_take {n j : Nat} {o : Oper} (hg : gLow n ops = true) (ho : (ops.take n)[j]? = some o) (ts : Env) : want1 (ops.take n) o ts = want1 ops o ts := by
  have := List.all_eq_true.1 hg o (List.mem_of_getElem? ho)
  unfold want1
  cases hg : o.guard with
  | none => rfl
  | some iv =>
    obtain ⟨i, v⟩ := iv
    rw [hg] at this
    simp only [decide_eq_true_eq] at this
    simp only [dstOf]
    rw [take_get this]

theorem solo_sound {n : Nat} (hn : n ≤ ops.length) (hs : soloB ops n = true) (hgl : gLow n ops = true) {ts0 : Env} {m0 : Mem} (hR : Ran P 0 (ops.take n) os qs tr ts0 m0) (hB : drawB (ops.take n) tr = true) (hok : opsOk N ops = true) (hgs : guardsOk N ops = true) {Q : Exit → Act → World → Prop} {K : St}
    (hK : sL P ops (ops.drop n) (Stt os qs (fun _ => true) ts0 m0 n).1 (Stt os qs (fun _ => true) ts0 m0 n).2 K) (hQ : ∀ a w, Done B N K a w → Q .normal a w) :
    ∀ (fuel : Nat) (listed : Array Bool) (φ : Nat → LS) (fp : Nat → List Nat) (S : Nat → Prop) (a : Act) (w : World), listed.size = ops.length → Closed ops (fun i => listed.getD i false) → (∀ i, n ≤ i → listed.getD i false = false) → unl ops.length listed ≤ fuel →
      RS B N φ fp S (Stt os qs (fun i => listed.getD i false) ts0 m0 n).1 (Stt os qs (fun i => listed.getD i false) ts0 m0 n).2 a w → wpAny P .any ops.toArray Q fuel listed a w := by
  have hlen : (ops.take n).length = n := by simp; omega
  have hback := back_of hs
  have full : ∀ (fuel : Nat) (listed : Array Bool) (φ : Nat → LS) (fp : Nat → List Nat) (S : Nat → Prop) (a : Act) (w : World), listed.size = ops.length → (∀ i, n ≤ i → listed.getD i false = false) → unl ops.length listed ≤ fuel →
      (∀ i, i < n → listed.getD i false = true) → RS B N φ fp S (Stt os qs (fun i => listed.getD i false) ts0 m0 n).1 (Stt os qs (fun i => listed.getD i false) ts0 m0 n).2 a w → wpAny P .any ops.toArray Q fuel listed a w := by
    intro fuel listed φ fp S a w hsz hlo hf hall h
    have e : Stt os qs (fun i => listed.getD i false) ts0 m0 n = Stt os qs (fun _ => true) ts0 m0 n := Stt_prefix n (Nat.le_refl _) fun q hq => hall q hq
    rw [e] at h
    refine tail_sound hs hok hgs hQ _ n fuel listed φ fp S _ _ a w rfl (Nat.le_refl _) hn ⟨hsz, fun i _ => ?_⟩ ?_ h hK
    · by_cases hi : i < n
      · rw [hall i hi]; simp [hi]
      · rw [hlo i (by omega)]; simp [hi]
    · refine Nat.le_trans (count_ge _ fun i h1 _ => ?_) hf
      rw [hlo i h1]; rfl
  intro fuel
  induction fuel with
  | zero =>
    intro listed φ fp S a w hsz hc hlo hf h
    refine full 0 listed φ fp S a w hsz hlo hf (fun i hi => ?_) h
    cases hl : listed.getD i false with
    | true => rfl
    | false =>
      have h0 : unl ops.length listed = 0 := Nat.le_zero.1 hf
      have := List.countP_eq_zero.1 h0 i (List.mem_range.2 (by omega))
      rw [hl] at this; exact absurd rfl this
  | succ fuel ih =>
    intro listed φ fp S a w hsz hc hlo hf h
    by_cases hall : ∀ i, i < n → listed.getD i false = true
    · exact full _ listed φ fp S a w hsz hlo hf hall h
    · obtain ⟨i0, hi0⟩ := Classical.not_forall.1 hall
      obtain ⟨hi0n, hi0⟩ := Classical.not_imp.1 hi0
      have hi0 : listed.getD i0 false = false := by simpa using hi0
      refine ⟨fun hr => ?_, fun j hj => ?_⟩
      · exfalso
        have : ∀ i, i < ops.length → listed.getD i false = true := by
          intro i
          induction i using Nat.strongRecOn with
          | ind i ih =>
            intro hi
            cases hl : listed.getD i false with
            | true => rfl
            | false =>
              have ho : ops[i]? = some ops[i] := List.getElem?_eq_getElem hi
              have : i ∈ Region.ready .any ops.toArray listed := mem_ready.2 ⟨getD_in (by omega) hl, ops[i], by simpa using ho, fun e he hb => by
                have hp : e.on ∈ preds ops[i] := List.mem_map.2 ⟨e, List.mem_filter.2 ⟨by simpa using he, hb⟩, rfl⟩
                have hlt := hback i _ ho _ hp
                exact ih e.on hlt (by omega)⟩
              rw [hr] at this; cases this
        rw [this i0 (by omega)] at hi0; cases hi0
      · obtain ⟨h0, o, ho, hpre⟩ := mem_ready.1 hj
        have hdj : listed.getD j false = false := getD_both h0
        have ho' : ops[j]? = some o := by simpa using ho
        have hjn : j < ops.length := (List.getElem?_eq_some_iff.1 ho').1
        have hp : ∀ i, i ∈ preds o → listed.getD i false = true := by
          intro i hi
          obtain ⟨e, he, rfl⟩ := List.mem_map.1 hi
          obtain ⟨he1, he2⟩ := List.mem_filter.1 he
          exact hpre e (by simpa using he1) he2
        have hjn' : j < n := by
          rcases Nat.lt_or_ge j n with hlt | hge
          · exact hlt
          · have := solo_out hs (hc.add ho' hp) hjn hge (by simp [addD]) i0 (by omega)
            simp only [addD, hi0, Bool.false_or, beq_iff_eq] at this
            omega
        have hot : (ops.take n)[j]? = some o := (take_get hjn').trans ho'
        have hct : Closed (ops.take n) (fun i => listed.getD i false) := fun k ok hk => by
          have hkn := (List.getElem?_eq_some_iff.1 hk).1
          rw [hlen] at hkn
          exact hc k ok ((take_get hkn).symm.trans hk)
        obtain ⟨⟨rd, hya⟩, hlk, hlb⟩ := hR.turn (D := fun i => listed.getD i false) hB hct (fun i hi => by
          rw [hlen]
          rcases Nat.lt_or_ge i n with h' | h'
          · exact h'
          · rw [hlo i h'] at hi; cases hi) (fun i hi => absurd hi (Nat.not_lt_zero _)) hot hdj hp
        rw [hlen] at hya hlk hlb
        have hD' : (fun i => (listed.setIfInBounds j true).getD i false) = addD (fun i => listed.getD i false) j := by
          funext i
          by_cases e : i = j
          · subst e
            simp [addD, hsz, hjn]
          · have e2 : (i == j) = false := by simpa using e
            rw [getD_set_ne false (Ne.symm e)]
            simp [addD, e2]
        have hf' : unl ops.length (listed.setIfInBounds j true) ≤ fuel := by
          have : unl ops.length (listed.setIfInBounds j true) < unl ops.length listed := by
            refine countP_lt _ j (List.mem_range.2 hjn) (by simp only [hdj]; rfl) (by simp [hsz, hjn]) fun i hi => ?_
            by_cases e : i = j
            · subst e; rw [hdj]; rfl
            · rw [getD_set_ne false (Ne.symm e)] at hi; exact hi
          omega
        have next : ∀ a' w', Done B N (fun ts m => ts = putE o.dst (qs j).x (Stt os qs (fun i => listed.getD i false) ts0 m0 n).1 ∧ m = (qs j).new ++ (Stt os qs (fun i => listed.getD i false) ts0 m0 n).2) a' w' →
            wpAny P .any ops.toArray Q fuel (listed.setIfInBounds j true) a' w' := by
          rintro a' w' ⟨φ', fp', S', ts', m', h', rfl, rfl⟩
          refine ih _ φ' fp' S' a' w' (by simp [hsz]) (by rw [hD']; exact hc.add ho' hp) (fun i hi => ?_) hf' ?_
          · rw [getD_set_ne false (by omega)]; exact hlo i hi
          · rw [hD']
            exact h'.ext hlk hlb
        have hdo : ∀ d, o.dst = some d → d < N := by
          intro d hd
          have := List.all_eq_true.1 hok o (List.mem_of_getElem? ho')
          rw [hd] at this; simpa using this
        have hwt := want1_take hgl hot
        unfold wpOp
        simp only [ho]
        rcases hya with ⟨hw, _, hrun⟩ | ⟨hw, hx, hnew⟩
        · rw [hwt] at hw
          rw [wanted_of h hgs ho' hw]
          simp only [if_true]
          refine .inl (op_sound h (sOp_of_D (hrun _ (fun _ _ => rfl) (fun _ _ => rfl) (fun x m' => x = (qs j).x ∧ m' = (qs j).new ++ (Stt os qs (fun i => listed.getD i false) ts0 m0 n).2) ⟨rfl, rfl⟩)) fun v w' hg => ?_)
          exact next _ _ (step_done hdo hg fun x m' ⟨h1, h2⟩ => ⟨by rw [h1], h2⟩)
        · rw [hwt] at hw
          rw [wanted_of h hgs ho' hw]
          simp only [Bool.false_eq_true, if_false]
          refine next _ _ (step_done (k := fun x m' => x = .tup [] ∧ m' = (Stt os qs (fun i => listed.getD i false) ts0 m0 n).2) hdo (h.gives (x := .tup []) (.rd _ _ (.tup [] #[] rfl fun i hi => absurd hi (Nat.not_lt_zero _))) (fun _ _ hl => by cases hl) ⟨rfl, rfl, rfl⟩) fun x m' ⟨h1, h2⟩ => ⟨by rw [h1, hx], by rw [h2, hnew]; rfl⟩)
end

theorem Later.solo (n : Nat) {P : Program} {N i : Nat} {ops : List Oper} {ts : Env} {m : Mem} {Q : Post} {q : Pack (Code.region i ⟨ops⟩ true, Q)} (hm : P.follows .mixedOrders = true) (hok : (opsOk N ops && guardsOk N ops && (gLow n ops && (soloB ops n && decide (n ≤ ops.length)))) = true)
    (h : sD P (ops.take n) (ops.take n) ts m [] fun ts' m' => sL P ops (ops.drop n) ts' m' (Q .normal)) : Later P N (.region i ⟨ops⟩ true) ts m Q q := by
  refine ⟨fun B φ fp S a w hRS => ?_⟩
  simp only [Bool.and_eq_true, decide_eq_true_eq] at hok
  have hlen : (ops.take n).length = n := by simp; omega
  obtain ⟨qs, tr, hR, hB, hK, _⟩ := sD_out (os := fun i => (ops[i]?).getD default) (ts0 := ts) (m0 := m) (sk := 0) (fun i o _ ho => by
    have hi := (List.getElem?_eq_some_iff.1 ho).1
    rw [hlen] at hi
    rw [take_get hi] at ho
    simp [ho]) (ops.take n) 0 (fun _ => ⟨.undef, []⟩) [] ts m rfl (Nat.le_refl _) (Nat.zero_le _) rfl rfl (fun i o _ hi => absurd hi (Nat.not_lt_zero _)) h
  rw [hlen] at hK
  refine wp_region_any hm ?_
  refine solo_sound (B := B) (N := N) hok.2.2.2 hok.2.2.1 hok.2.1 hR hB hok.1.1 hok.1.2 hK (fun a w hd => hd) _ _ φ fp S a _ (by simp) ?_ ?_ ?_ ?_
  · intro j o _ hd
    have hd : (Array.replicate (List.toArray ops).size false).getD j false = true := hd
    rw [getD_replicate_false] at hd; cases hd
  · exact fun i _ => getD_replicate_false _ _
  · exact Nat.le_trans List.countP_le_length (by simp)
  · have e : (fun i => (Array.replicate (List.toArray ops).size false).getD i false) = fun _ => false := funext fun i => getD_replicate_false _ _
    have e2 := Stt_stop (os := fun i => (ops[i]?).getD default) (qs := qs) (D := fun _ => false) (ts := ts) (m := m) (j := 0) (fun _ _ => rfl) n (Nat.zero_le _)
    show RS B N φ fp S (Stt _ qs (fun i => (Array.replicate (List.toArray ops).size false).getD i false) ts m n).1 (Stt _ qs (fun i => (Array.replicate (List.toArray ops).size false).getD i false) ts m n).2 a { w with drawn := w.drawn + 1 }
    rw [e, e2]
    exact hRS.sameHeap rfl ⟨rfl, rfl, rfl⟩
end Go.Vc


set_option linter.unusedVariables false
set_option linter.unusedSimpArgs false
set_option linter.unnecessarySimpa false
namespace Go.Vc

def waitB (ops : List Oper) (n : Nat) : Bool := backB ops && (List.range ops.length).all fun j => decide (j < n) || (List.range n).all fun i => ((ancsGo ops []).getD j []).contains i

section
variable {P : Program} {B : Base} {N : Nat} {φ : Nat → LS} {fp : Nat → List Nat} {S : Nat → Prop} {ts : Env} {m : Mem} {a : Act} {w : World}
variable {os : Nat → Oper} {qs : Nat → Rec} {D D' : Nat → Bool} {ops : List Oper} {tr : List (List Nat × List Nat)}

theorem wait_out {n : Nat} (h : waitB ops n = true) (hD : Closed ops D) {j : Nat} (hj : j < ops.length) (hn : n ≤ j) (hd : D j = true) : ∀ i, i < n → D i = true := by
  intro i hi
  simp only [waitB, Bool.and_eq_true, List.all_eq_true, List.mem_range, Bool.or_eq_true, decide_eq_true_eq, List.contains_eq_mem] at h
  rcases h.2 j hj with h1 | h1
  · omega
  · exact ancsGo_closed hD ops [] rfl (fun j x hx => by simp at hx) j i (h1 i hi) hd
theorem wait_back {n : Nat} (h : waitB ops n = true) : ∀ i o, ops[i]? = some o → ∀ p, p ∈ preds o → p < i := by
  intro i o ho p hp
  simp only [waitB, backB, Bool.and_eq_true, List.all_eq_true, List.mem_range] at h
  have := h.1 i (List.getElem?_eq_some_iff.1 ho).1
  rw [ho] at this
  simpa using List.all_eq_true.1 this p hp

theorem pre_sound {n : Nat} (hn : n ≤ ops.length) (hs : waitB ops n = true) (hgl : gLow n ops = true) {ts0 : Env} {m0 : Mem} (hR : Ran P 0 (ops.take n) os qs tr ts0 m0) (hB : drawB (ops.take n) tr = true) (hok : opsOk N ops = true) (hgs : guardsOk N ops = true)
    {Q : Exit → Act → World → Prop} {KN : St} (hK : KN (Stt os qs (fun _ => true) ts0 m0 n).1 (Stt os qs (fun _ => true) ts0 m0 n).2)
    (hfull : ∀ (fuel : Nat) (listed : Array Bool) (φ : Nat → LS) (fp : Nat → List Nat) (S : Nat → Prop) (ts : Env) (m : Mem) (a : Act) (w : World), Upk ops n listed → ops.length - n ≤ fuel → RS B N φ fp S ts m a w → KN ts m → wpAny P .any ops.toArray Q fuel listed a w) :
    ∀ (fuel : Nat) (listed : Array Bool) (φ : Nat → LS) (fp : Nat → List Nat) (S : Nat → Prop) (a : Act) (w : World), listed.size = ops.length → Closed ops (fun i => listed.getD i false) → (∀ i, n ≤ i → listed.getD i false = false) → unl ops.length listed ≤ fuel →
      RS B N φ fp S (Stt os qs (fun i => listed.getD i false) ts0 m0 n).1 (Stt os qs (fun i => listed.getD i false) ts0 m0 n).2 a w → wpAny P .any ops.toArray Q fuel listed a w := by
  have hlen : (ops.take n).length = n := by simp; omega
  have hback := wait_back hs
  have full : ∀ (fuel : Nat) (listed : Array Bool) (φ : Nat → LS) (fp : Nat → List Nat) (S : Nat → Prop) (a : Act) (w : World), listed.size = ops.length → (∀ i, n ≤ i → listed.getD i false = false) → unl ops.length listed ≤ fuel →
      (∀ i, i < n → listed.getD i false = true) → RS B N φ fp S (Stt os qs (fun i => listed.getD i false) ts0 m0 n).1 (Stt os qs (fun i => listed.getD i false) ts0 m0 n).2 a w → wpAny P .any ops.toArray Q fuel listed a w := by
    intro fuel listed φ fp S a w hsz hlo hf hall h
    have e : Stt os qs (fun i => listed.getD i false) ts0 m0 n = Stt os qs (fun _ => true) ts0 m0 n := Stt_prefix n (Nat.le_refl _) fun q hq => hall q hq
    rw [e] at h
    refine hfull fuel listed φ fp S _ _ a w ⟨hsz, fun i _ => ?_⟩ ?_ h hK
    · by_cases hi : i < n
      · rw [hall i hi]; simp [hi]
      · rw [hlo i (by omega)]; simp [hi]
    · refine Nat.le_trans (count_ge _ fun i h1 _ => ?_) hf
      rw [hlo i h1]; rfl
  intro fuel
  induction fuel with
  | zero =>
    intro listed φ fp S a w hsz hc hlo hf h
    refine full 0 listed φ fp S a w hsz hlo hf (fun i hi => ?_) h
    cases hl : listed.getD i false with
    | true => rfl
    | false =>
      have h0 : unl ops.length listed = 0 := Nat.le_zero.1 hf
      have := List.countP_eq_zero.1 h0 i (List.mem_range.2 (by omega))
      rw [hl] at this; exact absurd rfl this
  | succ fuel ih =>
    intro listed φ fp S a w hsz hc hlo hf h
    by_cases hall : ∀ i, i < n → listed.getD i false = true
    · exact full _ listed φ fp S a w hsz hlo hf hall h
    · obtain ⟨i0, hi0⟩ := Classical.not_forall.1 hall
      obtain ⟨hi0n, hi0⟩ := Classical.not_imp.1 hi0
      have hi0 : listed.getD i0 false = false := by simpa using hi0
      refine ⟨fun hr => ?_, fun j hj => ?_⟩
      · exfalso
        have : ∀ i, i < ops.length → listed.getD i false = true := by
          intro i
          induction i using Nat.strongRecOn with
          | ind i ih =>
            intro hi
            cases hl : listed.getD i false with
            | true => rfl
            | false =>
              have ho : ops[i]? = some ops[i] := List.getElem?_eq_getElem hi
              have : i ∈ Region.ready .any ops.toArray listed := mem_ready.2 ⟨getD_in (by omega) hl, ops[i], by simpa using ho, fun e he hb => by
                have hp : e.on ∈ preds ops[i] := List.mem_map.2 ⟨e, List.mem_filter.2 ⟨by simpa using he, hb⟩, rfl⟩
                have hlt := hback i _ ho _ hp
                exact ih e.on hlt (by omega)⟩
              rw [hr] at this; cases this
        rw [this i0 (by omega)] at hi0; cases hi0
      · obtain ⟨h0, o, ho, hpre⟩ := mem_ready.1 hj
        have hdj : listed.getD j false = false := getD_both h0
        have ho' : ops[j]? = some o := by simpa using ho
        have hjn : j < ops.length := (List.getElem?_eq_some_iff.1 ho').1
        have hp : ∀ i, i ∈ preds o → listed.getD i false = true := by
          intro i hi
          obtain ⟨e, he, rfl⟩ := List.mem_map.1 hi
          obtain ⟨he1, he2⟩ := List.mem_filter.1 he
          exact hpre e (by simpa using he1) he2
        have hjn' : j < n := by
          rcases Nat.lt_or_ge j n with hlt | hge
          · exact hlt
          · have := wait_out hs (hc.add ho' hp) hjn hge (by simp [addD]) i0 hi0n
            simp only [addD, hi0, Bool.false_or, beq_iff_eq] at this
            omega
        have hot : (ops.take n)[j]? = some o := (take_get hjn').trans ho'
        have hct : Closed (ops.take n) (fun i => listed.getD i false) := fun k ok hk => by
          have hkn := (List.getElem?_eq_some_iff.1 hk).1
          rw [hlen] at hkn
          exact hc k ok ((take_get hkn).symm.trans hk)
        obtain ⟨⟨rd, hya⟩, hlk, hlb⟩ := hR.turn (D := fun i => listed.getD i false) hB hct (fun i hi => by
          rw [hlen]
          rcases Nat.lt_or_ge i n with h' | h'
          · exact h'
          · rw [hlo i h'] at hi; cases hi) (fun i hi => absurd hi (Nat.not_lt_zero _)) hot hdj hp
        rw [hlen] at hya hlk hlb
        have hD' : (fun i => (listed.setIfInBounds j true).getD i false) = addD (fun i => listed.getD i false) j := by
          funext i
          by_cases e : i = j
          · subst e
            simp [addD, hsz, hjn]
          · have e2 : (i == j) = false := by simpa using e
            rw [getD_set_ne false (Ne.symm e)]
            simp [addD, e2]
        have hf' : unl ops.length (listed.setIfInBounds j true) ≤ fuel := by
          have : unl ops.length (listed.setIfInBounds j true) < unl ops.length listed := by
            refine countP_lt _ j (List.mem_range.2 hjn) (by simp only [hdj]; rfl) (by simp [hsz, hjn]) fun i hi => ?_
            by_cases e : i = j
            · subst e; rw [hdj]; rfl
            · rw [getD_set_ne false (Ne.symm e)] at hi; exact hi
          omega
        have next : ∀ a' w', Done B N (fun ts m => ts = putE o.dst (qs j).x (Stt os qs (fun i => listed.getD i false) ts0 m0 n).1 ∧ m = (qs j).new ++ (Stt os qs (fun i => listed.getD i false) ts0 m0 n).2) a' w' →
            wpAny P .any ops.toArray Q fuel (listed.setIfInBounds j true) a' w' := by
          rintro a' w' ⟨φ', fp', S', ts', m', h', rfl, rfl⟩
          refine ih _ φ' fp' S' a' w' (by simp [hsz]) (by rw [hD']; exact hc.add ho' hp) (fun i hi => ?_) hf' ?_
          · rw [getD_set_ne false (by omega)]; exact hlo i hi
          · rw [hD']
            exact h'.ext hlk hlb
        have hdo : ∀ d, o.dst = some d → d < N := by
          intro d hd
          have := List.all_eq_true.1 hok o (List.mem_of_getElem? ho')
          rw [hd] at this; simpa using this
        have hwt := want1_take hgl hot
        unfold wpOp
        simp only [ho]
        rcases hya with ⟨hw, _, hrun⟩ | ⟨hw, hx, hnew⟩
        · rw [hwt] at hw
          rw [wanted_of h hgs ho' hw]
          simp only [if_true]
          refine .inl (op_sound h (sOp_of_D (hrun _ (fun _ _ => rfl) (fun _ _ => rfl) (fun x m' => x = (qs j).x ∧ m' = (qs j).new ++ (Stt os qs (fun i => listed.getD i false) ts0 m0 n).2) ⟨rfl, rfl⟩)) fun v w' hg => ?_)
          exact next _ _ (step_done hdo hg fun x m' ⟨h1, h2⟩ => ⟨by rw [h1], h2⟩)
        · rw [hwt] at hw
          rw [wanted_of h hgs ho' hw]
          simp only [Bool.false_eq_true, if_false]
          refine next _ _ (step_done (k := fun x m' => x = .tup [] ∧ m' = (Stt os qs (fun i => listed.getD i false) ts0 m0 n).2) hdo (h.gives (x := .tup []) (.rd _ _ (.tup [] #[] rfl fun i hi => absurd hi (Nat.not_lt_zero _))) (fun _ _ hl => by cases hl) ⟨rfl, rfl, rfl⟩) fun x m' ⟨h1, h2⟩ => ⟨by rw [h1, hx], by rw [h2, hnew]; rfl⟩)

theorem one_sound {n : Nat} (hw : waitB ops (n + 1) = true) (hok : opsOk N ops = true) (hgs : guardsOk N ops = true) {o : Oper} (hon : ops[n]? = some o) {KC : St} {Q : Exit → Act → World → Prop} {fuel : Nat} {listed : Array Bool}
    (hu : Upk ops n listed) (h : RS B N φ fp S ts m a w) (hsl : sL P ops [o] ts m KC)
    (hcont : ∀ (φ : Nat → LS) (fp : Nat → List Nat) (S : Nat → Prop) (ts : Env) (m : Mem) (a : Act) (w : World), RS B N φ fp S ts m a w → KC ts m → wpAny P .any ops.toArray Q fuel (listed.setIfInBounds n true) a w) :
    wpAny P .any ops.toArray Q (fuel + 1) listed a w := by
  have hnl : n < ops.length := (List.getElem?_eq_some_iff.1 hon).1
  have hback := wait_back hw
  have hclosed : Closed ops (fun i => listed.getD i false) := by
    intro j oj hoj hdj i hi
    have hjn := (List.getElem?_eq_some_iff.1 hoj).1
    have h1 := hu.2 j hjn
    have h2 := hback j oj hoj i hi
    have h3 := hu.2 i (by omega)
    simp only at hdj ⊢
    rw [h1] at hdj
    rw [h3]
    simp at hdj ⊢; omega
  have hready : n ∈ Region.ready .any ops.toArray listed := by
    refine mem_ready.2 ⟨?_, o, by simpa using hon, fun e he hb => ?_⟩
    · have h5 : listed.getD n false = false := by rw [hu.2 n hnl]; exact decide_eq_false (Nat.lt_irrefl n)
      exact getD_in (by rw [hu.1]; exact hnl) h5
    · have hp : e.on ∈ preds o := List.mem_map.2 ⟨e, List.mem_filter.2 ⟨by simpa using he, hb⟩, rfl⟩
      have hlt := hback n o hon _ hp
      rw [hu.2 e.on (by omega)]; simpa using hlt
  refine ⟨fun hr => (by rw [hr] at hready; exact absurd hready List.not_mem_nil), fun j hj => ?_⟩
  obtain ⟨h0, oj, hoj, hpre⟩ := mem_ready.1 hj
  have hdj : listed.getD j false = false := getD_both h0
  have hoj' : ops[j]? = some oj := by simpa using hoj
  have hjn : j < ops.length := (List.getElem?_eq_some_iff.1 hoj').1
  have hjk : n ≤ j := by
    have := hu.2 j hjn
    rw [hdj] at this; simp at this; omega
  have hp : ∀ i, i ∈ preds oj → listed.getD i false = true := by
    intro i hi
    obtain ⟨e, he, rfl⟩ := List.mem_map.1 hi
    obtain ⟨he1, he2⟩ := List.mem_filter.1 he
    exact hpre e (by simpa using he1) he2
  have e : j = n := by
    rcases Nat.lt_or_ge n j with hlt | hge
    · have hadd := hclosed.add hoj' hp
      have := wait_out hw hadd hjn (by omega) (by simp [addD]) n (by omega)
      simp only [addD, hu.2 n hnl, Bool.or_eq_true, beq_iff_eq] at this
      simp at this; omega
    · omega
  subst e
  rw [hon] at hoj'
  injection hoj' with hoj'
  subst hoj'
  have hdo : ∀ d, o.dst = some d → d < N := by
    intro d hd
    have := List.all_eq_true.1 hok o (List.mem_of_getElem? hon)
    rw [hd] at this; simpa using this
  have next : ∀ a' w', Done B N KC a' w' → wpAny P .any ops.toArray Q fuel (listed.setIfInBounds j true) a' w' := by
    rintro a' w' ⟨φ', fp', S', ts', m', h', hk'⟩
    exact hcont φ' fp' S' ts' m' a' w' h' hk'
  unfold wpOp
  have hoA : ops.toArray[j]? = some o := by simpa using hon
  simp only [hoA]
  simp only [sL] at hsl
  cases hg : o.guard with
  | none =>
    rw [hg] at hsl
    rw [wanted_of h hgs hon (show want1 ops o ts = some true by simp [want1, hg])]
    simp only [if_true]
    exact .inl (op_sound h hsl fun v w' hgv => next _ _ (step_done hdo hgv fun x m' hx => hx))
  | some jw =>
    obtain ⟨g, want⟩ := jw
    rw [hg] at hsl
    simp only at hsl
    unfold sGuard at hsl
    split at hsl
    · rename_i c hy
      by_cases hcw : c = want
      · subst hcw
        rw [wanted_of h hgs hon (show want1 ops o ts = some true by simp [want1, hg, hy])]
        simp only [if_true]
        exact .inl (op_sound h (hsl.1 rfl) fun v w' hgv => next _ _ (step_done hdo hgv fun x m' hx => hx))
      · rw [wanted_of h hgs hon (show want1 ops o ts = some false by simp [want1, hg, hy, hcw])]
        simp only [Bool.false_eq_true, if_false]
        have hk2 := hsl.2 hcw
        refine next _ _ (step_done (k := fun x m' => x = .tup [] ∧ m' = m) hdo (h.gives (x := .tup []) (.rd _ _ (.tup [] #[] rfl fun i hi => absurd hi (Nat.not_lt_zero _))) (fun _ _ hl => by cases hl) ⟨rfl, rfl, rfl⟩) fun x m' ⟨h1, h2⟩ => ?_)
        rw [h1, h2]; exact hk2
    · rename_i hy
      rw [wanted_of h hgs hon (show want1 ops o ts = some false by simp [want1, hg, hy])]
      simp only [Bool.false_eq_true, if_false]
      refine next _ _ (step_done (k := fun x m' => x = .tup [] ∧ m' = m) hdo (h.gives (x := .tup []) (.rd _ _ (.tup [] #[] rfl fun i hi => absurd hi (Nat.not_lt_zero _))) (fun _ _ hl => by cases hl) ⟨rfl, rfl, rfl⟩) fun x m' ⟨h1, h2⟩ => ?_)
      rw [h1, h2]; exact hsl
    · exact hsl.elim
theorem Stt_idle {n : Nat} {x : AV} {ts : Env} {m : Mem} (f : Nat → Oper) (hd : ∀ i, i < n → (f i).dst = none) : ∀ i, i ≤ n → Stt f (fun _ => ⟨x, []⟩) (fun _ => true) ts m i = (ts, m)
  | 0, _ => rfl
  | i + 1, hi => by
    simp only [Stt, if_true]
    rw [Stt_idle f hd i (by omega), hd i (by omega)]
    rfl
end

def idleOp : Oper := { (default : Oper) with dst := none }

theorem Later.duo (n : Nat) {P : Program} {N i : Nat} {ops : List Oper} {ts : Env} {m : Mem} {Q : Post} {q : Pack (Code.region i ⟨ops⟩ true, Q)} (hm : P.follows .mixedOrders = true)
    (hok : (opsOk N ops && guardsOk N ops && (gLow n ops && (waitB ops n && (waitB ops (n + 1) && decide (n < ops.length))))) = true)
    (h : sD P (ops.take n) (ops.take n) ts m [] fun ts' m' => sL P ops ((ops.drop n).take 1) ts' m' fun ts'' m'' => sD P ops (ops.drop (n + 1)) ts'' m'' (List.replicate (n + 1) ([], [])) (Q .normal)) : Later P N (.region i ⟨ops⟩ true) ts m Q q := by
  refine ⟨fun B φ fp S a w hRS => ?_⟩
  simp only [Bool.and_eq_true, decide_eq_true_eq] at hok
  obtain ⟨⟨hok1, hok2⟩, hgl, hw, hw1, hn⟩ := hok
  have hlen : (ops.take n).length = n := by simp; omega
  obtain ⟨qs, tr, hR, hB, hK, _⟩ := sD_out (os := fun i => (ops[i]?).getD default) (ts0 := ts) (m0 := m) (sk := 0) (fun i o _ ho => by
    have hi := (List.getElem?_eq_some_iff.1 ho).1
    rw [hlen] at hi
    rw [take_get hi] at ho
    simp [ho]) (ops.take n) 0 (fun _ => ⟨.undef, []⟩) [] ts m rfl (Nat.le_refl _) (Nat.zero_le _) rfl rfl (fun i o _ hi => absurd hi (Nat.not_lt_zero _)) h
  rw [hlen] at hK
  have hon : ops[n]? = some ops[n] := List.getElem?_eq_getElem hn
  have hdt : (ops.drop n).take 1 = [ops[n]] := by rw [List.drop_eq_getElem_cons hn]; rfl
  rw [hdt] at hK
  refine wp_region_any hm ?_
  refine pre_sound (B := B) (N := N) (KN := fun ts' m' => sL P ops [ops[n]] ts' m' fun ts'' m'' => sD P ops (ops.drop (n + 1)) ts'' m'' (List.replicate (n + 1) ([], [])) (Q .normal)) (by omega) hw hgl hR hB hok1 hok2 hK ?_ _ _ φ fp S a _ (by simp) ?_ ?_ ?_ ?_
  · intro fuel listed φ fp S ts m a w hu hf h1 hsl
    obtain ⟨fuel, rfl⟩ : ∃ f, fuel = f + 1 := ⟨fuel - 1, by omega⟩
    refine one_sound hw1 hok1 hok2 hon hu h1 hsl fun φ fp S ts m a w h2 hsd => ?_
    have hsz : (listed.setIfInBounds n true).size = ops.length := by simp [hu.1]
    have hup : ∀ i, i < ops.length → (listed.setIfInBounds n true).getD i false = decide (i < n + 1) := by
      intro i hi
      by_cases e : i = n
      · subst e; simp [hu.1, hi]
      · rw [getD_set_ne false (Ne.symm e), hu.2 i hi]
        simp; omega
    have hid : ∀ i, i ≤ n + 1 → Stt (fun i => if i < n + 1 then idleOp else (ops[i]?).getD default) (fun _ => ⟨.undef, []⟩) (fun _ => true) ts m i = (ts, m) := Stt_idle (n := n + 1) _ fun i hi => by simp only [hi, if_true]; rfl
    obtain ⟨qs2, tr2, hR2, hB2, hK2, hq2⟩ := sD_out (os := fun i => if i < n + 1 then idleOp else (ops[i]?).getD default) (ts0 := ts) (m0 := m) (sk := n + 1) (fun i o hi ho => by simp only [Nat.not_lt.2 hi, if_false]; simp [ho]) (ops.drop (n + 1)) (n + 1)
      (fun _ => ⟨.undef, []⟩) (List.replicate (n + 1) ([], [])) ts m rfl (Nat.le_refl _) hn (by simp) (hid _ (Nat.le_refl _)) (fun i o h1 h2 => absurd h2 (Nat.not_lt.2 h1)) hsd
    have hst : Stt (fun i => if i < n + 1 then idleOp else (ops[i]?).getD default) qs2 (fun i => (listed.setIfInBounds n true).getD i false) ts m ops.length = (ts, m) := by
      rw [Stt_stop (j := n + 1) (fun q hq => by
        rcases Nat.lt_or_ge q ops.length with hql | hql
        · rw [hup q hql]; simp; omega
        · rw [Array.getD_eq_getD_getElem?, Array.getElem?_eq_none (by omega)]; rfl) ops.length hn]
      rw [Stt_qs (qs' := fun _ => ⟨.undef, []⟩) (n + 1) hq2]
      have hidle : ∀ (D : Nat → Bool) i, i ≤ n + 1 → Stt (fun i => if i < n + 1 then idleOp else (ops[i]?).getD default) (fun _ => ⟨.undef, []⟩) D ts m i = (ts, m) := by
        intro D i
        induction i with
        | zero => intro _; rfl
        | succ i ih =>
          intro hi
          simp only [Stt]
          rw [ih (by omega)]
          cases D i with
          | false => rfl
          | true => simp only [if_true, show i < n + 1 by omega]; rfl
      exact hidle _ _ (Nat.le_refl _)
    refine any_sound (B := B) (N := N) hR2 hB2 hok1 hok2 hK2 (fun a w hd => hd) _ _ φ fp S a w hsz ?_ (fun i hi => by rw [hup i (by omega)]; simpa using hi) ?_ (by rw [hst]; exact h2)
    · intro j oj hoj hdj i hi
      have hjn := (List.getElem?_eq_some_iff.1 hoj).1
      have h3 := wait_back hw1 j oj hoj i hi
      have hdj : (listed.setIfInBounds n true).getD j false = true := hdj
      show (listed.setIfInBounds n true).getD i false = true
      rw [hup j hjn] at hdj
      rw [hup i (by omega)]
      simp at hdj ⊢; omega
    · have hc : unl ops.length (listed.setIfInBounds n true) ≤ ops.length - (n + 1) := by
        unfold unl
        have : ∀ N, (∀ i, i < N → i < ops.length) → (List.range N).countP (fun i => !(listed.setIfInBounds n true).getD i false) ≤ N - (n + 1) := by
          intro N hN
          induction N with
          | zero => simp
          | succ N ih =>
            have ih := ih fun i hi => hN i (by omega)
            rw [List.range_succ, List.countP_append, List.countP_cons, List.countP_nil, hup N (hN N (by omega))]
            by_cases e : N < n + 1
            · simp only [decide_eq_true e, Bool.not_true, Bool.false_eq_true, if_false]; omega
            · simp only [decide_eq_false e, Bool.not_false, if_true]; omega
        exact this _ fun i hi => hi
      omega
  · intro j o _ hd
    have hd : (Array.replicate (List.toArray ops).size false).getD j false = true := hd
    rw [getD_replicate_false] at hd; cases hd
  · exact fun i _ => getD_replicate_false _ _
  · exact Nat.le_trans List.countP_le_length (by simp)
  · have e : (fun i => (Array.replicate (List.toArray ops).size false).getD i false) = fun _ => false := funext fun i => getD_replicate_false _ _
    have e2 := Stt_stop (os := fun i => (ops[i]?).getD default) (qs := qs) (D := fun _ => false) (ts := ts) (m := m) (j := 0) (fun _ _ => rfl) n (Nat.zero_le _)
    show RS B N φ fp S (Stt _ qs (fun i => (Array.replicate (List.toArray ops).size false).getD i false) ts m n).1 (Stt _ qs (fun i => (Array.replicate (List.toArray ops).size false).getD i false) ts m n).2 a { w with drawn := w.drawn + 1 }
    rw [e, e2]
    exact hRS.sameHeap rfl ⟨rfl, rfl, rfl⟩
end Go.Vc


set_option linter.unusedVariables false
set_option linter.unusedSimpArgs false
set_option linter.unnecessarySimpa false
namespace Go.Vc

def keys (m : Mem) : List Nat := m.map (·.1)
section
variable {P : Program} {B : Base} {N : Nat} {φ : Nat → LS} {fp : Nat → List Nat} {S : Nat → Prop} {ts : Env} {m : Mem} {a : Act} {w : World}

end

theorem labs_mkRes {ys : List AV} (h : labsL ys = []) : labs (mkRes ys) = [] := by
  match ys, h with
  | [], _ => simp [mkRes, labs, labsL]
  | [y], h => simpa [mkRes, labsL] using h
  | y :: y' :: r, h => rw [mkRes_two]; simpa [labs] using h

end Go.Vc


set_option linter.unusedVariables false
set_option linter.unusedSimpArgs false
set_option linter.unnecessarySimpa false
namespace Go.Vc

section
variable {P : Program} {B : Base} {N : Nat} {φ : Nat → LS} {fp : Nat → List Nat} {S : Nat → Prop} {ts : Env} {m : Mem} {a : Act} {w : World}

end

def frzOk (l v : Nat) (sh : Sh) (ys : List AV) : List AV → List AV → Prop
  | [], [] => True
  | x :: xs, t :: r => ((∃ i n, x = .ref l v i n ∧ i + n ≤ ys.length ∧ t = .arr sh ((ys.drop i).take n)) ∨ (labs x = [] ∧ isClo x = false ∧ t = x)) ∧ frzOk l v sh ys xs r
  | _, _ => False
theorem frzOk_ref {l v : Nat} {sh : Sh} {ys xs r : List AV} (i n : Nat) (h : i + n ≤ ys.length) (hr : frzOk l v sh ys xs r) : frzOk l v sh ys (.ref l v i n :: xs) (.arr sh ((ys.drop i).take n) :: r) := ⟨.inl ⟨i, n, rfl, h, rfl⟩, hr⟩
theorem frzOk_no {l v : Nat} {sh : Sh} {ys xs r : List AV} {x : AV} (h : labs x = []) (h2 : isClo x = false) (hr : frzOk l v sh ys xs r) : frzOk l v sh ys (x :: xs) (x :: r) := ⟨.inr ⟨h, h2, rfl⟩, hr⟩
theorem sCallT_frz {P : Program} {f : FuncId} {d : Nat} {xs trs xt : List AV} {m : Mem} {k : AV → Mem → Prop} {q : Pack k} {post : AV → Prop} (l v : Nat) (sh : Sh) (dp : Bool) (ys : List AV) (hfn : Fn P f trs false post) (hl : l < ioL)
    (hm : lookB m l = some (.row v sh dp ys)) (hx : frzOk l v sh ys xs trs) (hk : ∀ r, post r → k r ((l, .gone v) :: m)) : sCallT P f d xs xt m k q := by
  refine .inl fun B N φ fp S ts a w vs h hsz hrv hxl => ⟨hfn.1, ?_⟩
  have hf := h.frz hl hm (v := v) rfl
  have hlen : ∀ (xs trs : List AV), frzOk l v sh ys xs trs → trs.length = xs.length ∧ ∀ i (h1 : i < xs.length) (h2 : i < trs.length),
      (∃ j n, xs[i] = .ref l v j n ∧ j + n ≤ ys.length ∧ trs[i] = .arr sh ((ys.drop j).take n)) ∨ (labs xs[i] = [] ∧ isClo xs[i] = false ∧ trs[i] = xs[i]) := by
    intro xs
    induction xs with
    | nil => intro trs hx; cases trs with
      | nil => exact ⟨rfl, fun i h1 => absurd h1 (Nat.not_lt_zero _)⟩
      | cons => exact hx.elim
    | cons x xs ih => intro trs hx; cases trs with
      | nil => exact hx.elim
      | cons t r =>
        obtain ⟨g1, g2⟩ := ih r hx.2
        refine ⟨by simp [g1], fun i h1 h2 => ?_⟩
        cases i with
        | zero => exact hx.1
        | succ i => exact g2 i (by simpa using h1) (by simpa using h2)
  obtain ⟨hlen, helt⟩ := hlen xs trs hx
  refine (hfn.2 w (fun b => S b ∨ b ∈ fp l) vs (fun b hb => (hf.sB b hb).1) hf.kon (hsz.trans hlen.symm) fun i hi => ?_).mono ?_
  · have hi2 : i < xs.length := by omega
    rcases helt i hi2 hi with ⟨j, n, e1, e2, e3⟩ | ⟨e1, e2, e3⟩
    · rw [e3]
      have := hrv i hi2
      rw [e1] at this
      exact frz_rd h hl hm e2 this
    · rw [e3]
      exact (rd_of_rv (hrv i hi2) e1).mono (fun _ _ => rfl) fun _ h => .inl h
  · rintro e w' ⟨r, v', rfl, hr, hg, hres⟩
    simp only [FnRes, Bool.false_eq_true, if_false] at hres
    have hRS := (hf.grown hg).hold (fun b => w.heap.size ≤ b ∧ b < w'.heap.size) (fun b hb => ⟨hb.2, Nat.le_trans hf.size hb.1, fun k hk => by have := (hf.fpB k b hk).1; omega⟩)
    exact ⟨v', rfl, _, _, _, ts, _, r, hRS, .rd _ _ hres, fun k ver hk => (by rw [labs_rd hres] at hk; cases hk), rfl, hk r hr⟩

def finS (P : Program) (rs : List ResultVar) (post : AV → Prop) : Post
  | .normal => fun ts m => sResults P (fun xs => sGivAs (fun ys _ => labsL ys = [] ∧ post (mkRes ys)) [] m xs) rs ts m []
  | .ret => fun ts m => sResults P (fun xs => sGivAs (fun ys _ => labsL ys = [] ∧ post (mkRes ys)) [] m xs) rs ts m []
  | _ => fun _ _ => False
theorem finS_ret (P : Program) (rs : List ResultVar) (post : AV → Prop) (ts : Env) (m : Mem) : finS P rs post .ret ts m = sResults P (fun xs => sGivAs (fun ys _ => labsL ys = [] ∧ post (mkRes ys)) [] m xs) rs ts m [] := rfl

theorem Fn.of_vcS' {P : Program} {f : FuncId} {fn : Func} {c : Code} {args : List AV} {post : AV → Prop} (hf : P.funcs[f]? = some fn) (hn : (fn.name == "runtime.NumGoroutine") = false) (hb : fn.body = some c)
    (hok : codeOk fn.ntmps c = true) (ha : args.length ≤ fn.ntmps) (hv : vc P fn.ntmps c (argsE 0 args) [] (finS P fn.results.toList post)) : Fn P f args false post := by
  refine ⟨⟨fn, c, hf, hn, hb⟩, fun w S vs hS hkon hsz hrd => ?_⟩
  refine calls_of_wp hf hb ?_
  have hRS : RS ⟨w, fun _ _ => False, S, fun _ => .dead, []⟩ fn.ntmps (fun _ => .dead) (fun _ => []) S (argsE 0 args) [] { tmps := vs ++ Array.replicate (fn.ntmps - vs.size) undef, defers := [] } w := by
    have hlook : ∀ t, (look (argsE 0 args) t = .undef ∨ ∃ h : t < args.length, look (argsE 0 args) t = args[t]) := by
      intro t
      rw [look_argsE]
      by_cases h : t < args.length
      · exact .inr ⟨h, by simp [h]⟩
      · exact .inl (by simp [h])
    refine { tm := fun t => ?_, tl := fun t l ver hl => ?_, mNone := fun _ _ => ⟨rfl, rfl⟩, mSome := fun l k hk => (by cases hk), bl := fun l v xs hk => (by cases hk), nod := fun _ => List.nodup_nil,
             dis := fun _ _ _ h => (by cases h), notS := fun _ _ h => (by cases h), fpB := fun _ _ h => (by cases h), sB := fun b hb => ⟨hS b hb, .inr hb⟩, base := fun b hb _ => rfl, out := SameOut.refl _, szs := Szs.refl _, kn := fun _ _ _ hk => hk, fix := fun _ _ _ _ => LS.le_refl _ _,
             size := Nat.le_refl _, defers := rfl, tsz := by simp; omega, kon := hkon }
    · rcases hlook t with e | ⟨h, e⟩
      · rw [e]; exact .rd _ _ (.undef _)
      · rw [e]
        have h1 := hrd t h
        have : vs.toList.getD t Go.undef = (vs ++ Array.replicate (fn.ntmps - vs.size) undef).getD t Go.undef := by
          have h2 : t < vs.size := by omega
          simp only [Array.getD_eq_getD_getElem?, List.getD_eq_getElem?_getD, Array.getElem?_toList]
          rw [Array.getElem?_append_left h2]
        rw [← this]
        exact .rd _ _ h1
    · rcases hlook t with e | ⟨h, e⟩
      · rw [e] at hl; cases hl
      · rw [e, labs_rd (hrd t h)] at hl; cases hl
  have hend : ∀ a' w', Done ⟨w, fun _ _ => False, S, fun _ => .dead, []⟩ fn.ntmps (fun ts m => sResults P (fun xs => sGivAs (fun ys _ => labsL ys = [] ∧ post (mkRes ys)) [] m xs) fn.results.toList ts m []) a' w' →
      a'.defers = [] ∧ ∃ v, (results fn a'.tmps).run P w' = .ok v w' ∧ ∃ r v', Ending.returned v = .returned v' ∧ post r ∧ Grown w w' ∧ FnRes w w' S false r v' := by
    rintro a' w' ⟨φ0, fp0, S0, ts', m0, h0, hk⟩
    refine ⟨h0.defers, ?_⟩
    obtain ⟨ys0, us, h1, h2, h3, h4⟩ := results_out' h0 fn.results.toList [] [] ⟨rfl, fun i hi => absurd hi (Nat.not_lt_zero _)⟩ (fun i hi => absurd hi (Nat.not_lt_zero _)) hk
    obtain ⟨φ', fp', S', m', ys, hgv, h3, hlab, hpost⟩ := givAs_out ys0 us [] [] h0 (by simpa using h3) ⟨rfl, fun i hi => absurd hi (Nat.not_lt_zero _)⟩ h1
    have h' := hgv.rs
    obtain ⟨h3a, h3b⟩ := h3
    simp only [List.nil_append] at h3a h3b
    refine ⟨if h : us.toArray.size = 1 then us.toArray[0] else .tuple us.toArray, ?_, mkRes ys, _, rfl, hpost, ⟨h'.size, fun b hb => h'.base b hb (fun _ h => h), h'.out⟩, ?_⟩
    · have hm : results fn a'.tmps = (do let vs ← fn.results.mapM (resOne a'.tmps); pure (if h : vs.size = 1 then vs[0] else .tuple vs)) := by
        unfold results
        congr 1
      rw [hm, Sem.run_bind, Array.mapM_eq_mapM_toList]
      have : (List.toArray <$> fn.results.toList.mapM (resOne a'.tmps) : Sem (Array Value)).run P w' = .ok us.toArray w' := by
        rw [map_eq_pure_bind, Sem.run_bind, h2]; rfl
      rw [this]; rfl
    · show Rd w' _ _ _
      refine (rd_of_rv (mkRes_rv h3a h3b) (labs_mkRes hlab)).mono (fun _ _ => rfl) fun b hb => ?_
      rcases (h'.sB b hb).2 with hh | hh
      · exact .inr ⟨hh, (h'.sB b hb).1⟩
      · exact .inl hh
  refine wp_mono (vc_sound c _ _ _ hok hv _ _ _ _ _ _ hRS) ?_
  intro e a' w' hq
  cases e with
  | normal => exact hend a' w' hq
  | ret => exact hend a' w' hq
  | _ => obtain ⟨_, _, _, _, _, _, hh⟩ := hq; exact hh.elim
theorem Fn.of_vcS {P : Program} {f : FuncId} {fn : Func} {c : Code} {args : List AV} {post : AV → Prop} (N : Nat) (rs : List ResultVar) (hf : P.funcs[f]? = some fn) (hN : fn.ntmps = N) (hr : fn.results.toList = rs) (hn : (fn.name == "runtime.NumGoroutine") = false)
    (hb : fn.body = some c) (hok : codeOk N c = true) (ha : args.length ≤ N) (hv : vc P N c (argsE 0 args) [] (finS P rs post)) : Fn P f args false post := by
  subst hN; subst hr; exact Fn.of_vcS' hf hn hb hok ha hv
attribute [go_sem] finS_ret labs_val labs_arr labsL_nil labsL_cons
end Go.Vc


