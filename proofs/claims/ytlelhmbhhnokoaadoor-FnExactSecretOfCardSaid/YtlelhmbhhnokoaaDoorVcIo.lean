/-
  Contracts of functions that write blocks of their caller's.
-/
import Derived.Test.YtlelhmbhhnokoaaDoorVcFn
set_option linter.unusedVariables false
set_option linter.unusedSimpArgs false
set_option linter.unnecessarySimpa false
namespace Go.Vc

def ioM : Nat → List Blk → Mem
  | _, [] => []
  | k, b :: r => (ioL + k, b) :: ioM (k + 1) r
theorem ioM_nil (k : Nat) : ioM k [] = [] := rfl
theorem ioM_cons (k : Nat) (b : Blk) (r : List Blk) : ioM k (b :: r) = (1000000000 + k, b) :: ioM (k + 1) r := rfl

theorem lookB_ioM : ∀ (io : List Blk) (k l : Nat), lookB (ioM k io) l = if ioL + k ≤ l then io[l - (ioL + k)]? else none
  | [], k, l => by simp [ioM, lookB]
  | b :: r, k, l => by
    rw [ioM, lookB_cons, lookB_ioM r (k + 1) l]
    by_cases h : ioL + k = l
    · subst h; simp
    · by_cases h2 : ioL + k ≤ l
      · rw [if_neg h, if_pos (by omega), if_pos h2, show l - (ioL + k) = (l - (ioL + (k + 1))) + 1 by omega, List.getElem?_cons_succ]
      · rw [if_neg h, if_neg (by omega), if_neg h2]

def labFree : Blk → Prop
  | .box _ xs => labsL xs = []
  | .row _ _ _ _ => True
  | .gone _ => False
  | .lent _ _ _ _ => False

/-- What a call leaves in the caller's blocks. -/
def IoOk (io io' : List Blk) (m : Mem) : Prop := io'.length = io.length ∧ ∀ k (h : k < io'.length) (h' : k < io.length), lookB m (ioL + k) = some io'[k] ∧ io'[k].ver = io[k].ver ∧ labFree io'[k]

def ioB (w : World) (φ : Nat → LS) (fp : Nat → List Nat) (S : Nat → Prop) (io : List Blk) : Base := ⟨w, fun l b => b ∈ fp l, S, φ, ioM 0 io⟩

/-- The contract of a function that may write the caller's blocks 'io': called with values that read so, it returns a value that reads as one that meets post, and leaves such blocks. -/
def FnM (P : Program) (f : FuncId) (io : List Blk) (args : List AV) (post : AV → List Blk → Prop) : Prop :=
  Enters P f ∧ ∀ (w : World) (φ : Nat → LS) (fp : Nat → List Nat) (S : Nat → Prop) (vs : Array Value), vs.size = args.length →
    RS (ioB w φ fp S io) vs.size φ fp S (argsE 0 args) (ioM 0 io) { tmps := vs, defers := [] } w →
    Calls P f vs w fun e w' => ∃ r v io' φ' fp' S' m', e = .returned v ∧ post r io' ∧ RS (ioB w φ fp S io) 0 φ' fp' S' [] m' { tmps := #[], defers := [] } w' ∧ IoOk io io' m' ∧
      ∃ fs, Own w' (fun _ => False) r v fs ∧ fs.Nodup ∧ ∀ b, b ∈ fs → w.heap.size ≤ b ∧ ¬ S' b ∧ ∀ l, ioL ≤ l → b ∉ fp' l

def sIo1 (v : Nat) (b : Option Blk) (k : Blk → Prop) : Prop := match b with
  | some (.row v' sh d xs) => v' = v ∧ k (.row v' sh d xs)
  | some (.box v' xs) => v' = v ∧ labsL xs = [] ∧ k (.box v' xs)
  | _ => False
@[congr] theorem sIo1_congr {v : Nat} {b b' : Option Blk} {k : Blk → Prop} (h : b = b') : sIo1 v b k = sIo1 v b' k := by rw [h]
theorem sIo1_row (v : Nat) (sh : Sh) (d : Bool) (xs : List AV) (k : Blk → Prop) : sIo1 v (some (.row v sh d xs)) k = k (.row v sh d xs) := by simp [sIo1]
theorem sIo1_box (v : Nat) (xs : List AV) (k : Blk → Prop) : sIo1 v (some (.box v xs)) k = (labsL xs = [] ∧ k (.box v xs)) := by simp [sIo1]
def sIoB (m : Mem) (k : List Blk → Prop) : Nat → List Nat → List Blk → Prop
  | _, [], acc => k acc.reverse
  | i, v :: r, acc => sIo1 v (lookB m (ioL + i)) fun b => sIoB m k (i + 1) r (b :: acc)
theorem sIoB_nil (m : Mem) (k : List Blk → Prop) (i : Nat) (acc : List Blk) : sIoB m k i [] acc = k acc.reverse := rfl
theorem sIoB_cons (m : Mem) (k : List Blk → Prop) (i v : Nat) (r : List Nat) (acc : List Blk) : sIoB m k i (v :: r) acc = sIo1 v (lookB m (1000000000 + i)) fun b => sIoB m k (i + 1) r (b :: acc) := rfl
theorem sIo_out {m : Mem} {k : List Blk → Prop} : ∀ (vers : List Nat) (i : Nat) (acc : List Blk), sIoB m k i vers acc → ∃ io', k (acc.reverse ++ io') ∧ io'.length = vers.length ∧
    ∀ j (h : j < io'.length) (h' : j < vers.length), lookB m (ioL + (i + j)) = some io'[j] ∧ io'[j].ver = vers[j] ∧ labFree io'[j]
  | [], i, acc, hk => by
    have hk1 : k acc.reverse := hk
    exact ⟨[], by simpa using hk1, rfl, fun j h => absurd h (Nat.not_lt_zero _)⟩
  | v :: r, i, acc, hk0 => by
    have hk1 : sIo1 v (lookB m (ioL + i)) fun b => sIoB m k (i + 1) r (b :: acc) := hk0
    clear hk0
    have main : ∀ b, lookB m (ioL + i) = some b → b.ver = v → labFree b → sIoB m k (i + 1) r (b :: acc) → ∃ io', k (acc.reverse ++ io') ∧ io'.length = (v :: r).length ∧
        ∀ j (h : j < io'.length) (h' : j < (v :: r).length), lookB m (ioL + (i + j)) = some io'[j] ∧ io'[j].ver = (v :: r)[j] ∧ labFree io'[j] := by
      intro b hb hv hf hk
      obtain ⟨io', h1, h2, h3⟩ := sIo_out r (i + 1) (b :: acc) hk
      refine ⟨b :: io', by simpa using h1, by simp [h2], fun j hj hj' => ?_⟩
      cases j with
      | zero => exact ⟨hb, hv, hf⟩
      | succ j =>
        have := h3 j (by simpa using hj) (by simpa using hj')
        rw [show i + 1 + j = i + (j + 1) by omega] at this
        exact this
    unfold sIo1 at hk1
    split at hk1
    · rename_i hb; exact main _ hb hk1.1 trivial hk1.2
    · rename_i hb; exact main _ hb hk1.1 hk1.2.1 hk1.2.2
    · exact hk1.elim

/-- What must hold where the body ends. -/
def finM (P : Program) (rs : List ResultVar) (vers : List Nat) (post : AV → List Blk → Prop) : Post
  | .normal => fun ts m => sResults P (fun xs => sOwnAs m (fun ys => sIoB m (fun io' => post (mkRes ys) io') 0 vers []) [] [] xs) rs ts m []
  | .ret => fun ts m => sResults P (fun xs => sOwnAs m (fun ys => sIoB m (fun io' => post (mkRes ys) io') 0 vers []) [] [] xs) rs ts m []
  | _ => fun _ _ => False
theorem finM_normal (P : Program) (rs : List ResultVar) (vers : List Nat) (post : AV → List Blk → Prop) (ts : Env) (m : Mem) :
    finM P rs vers post .normal ts m = sResults P (fun xs => sOwnAs m (fun ys => sIoB m (fun io' => post (mkRes ys) io') 0 vers []) [] [] xs) rs ts m [] := rfl
theorem finM_ret (P : Program) (rs : List ResultVar) (vers : List Nat) (post : AV → List Blk → Prop) (ts : Env) (m : Mem) :
    finM P rs vers post .ret ts m = sResults P (fun xs => sOwnAs m (fun ys => sIoB m (fun io' => post (mkRes ys) io') 0 vers []) [] [] xs) rs ts m [] := rfl

theorem FnM.of_vc' {P : Program} {f : FuncId} {fn : Func} {c : Code} {io : List Blk} {args : List AV} {post : AV → List Blk → Prop} (hf : P.funcs[f]? = some fn) (hn : (fn.name == "runtime.NumGoroutine") = false) (hb : fn.body = some c)
    (hok : codeOk fn.ntmps c = true) (ha : args.length ≤ fn.ntmps) (hv : vc P fn.ntmps c (argsE 0 args) (ioM 0 io) (finM P fn.results.toList (io.map Blk.ver) post)) : FnM P f io args post := by
  refine ⟨⟨fn, c, hf, hn, hb⟩, fun w φ fp S vs hsz hR0 => ?_⟩
  refine calls_of_wp hf hb ?_
  have hRS : RS (ioB w φ fp S io) fn.ntmps φ fp S (argsE 0 args) (ioM 0 io) { tmps := vs ++ Array.replicate (fn.ntmps - vs.size) undef, defers := [] } w := by
    refine { hR0 with tm := fun t => ?_, defers := rfl, tsz := by simp; omega }
    by_cases h : t < args.length
    · have h1 := hR0.tm t
      have : vs.getD t Go.undef = (vs ++ Array.replicate (fn.ntmps - vs.size) undef).getD t Go.undef := by
        have h2 : t < vs.size := by omega
        simp only [Array.getD_eq_getD_getElem?]
        rw [Array.getElem?_append_left h2]
      rw [← this]; exact h1
    · rw [look_argsE]
      have : (if 0 ≤ t then (args[t - 0]?).getD AV.undef else .undef) = .undef := by simp [List.getElem?_eq_none (show args.length ≤ t by omega)]
      rw [this]; exact .rd _ _ (.undef _)
  have hend : ∀ a' w', Done (ioB w φ fp S io) fn.ntmps (fun ts m => sResults P (fun xs => sOwnAs m (fun ys => sIoB m (fun io' => post (mkRes ys) io') 0 (io.map Blk.ver) []) [] [] xs) fn.results.toList ts m []) a' w' →
      a'.defers = [] ∧ ∃ v, (results fn a'.tmps).run P w' = .ok v w' ∧ ∃ r v' io' φ' fp' S' m', Ending.returned v = .returned v' ∧ post r io' ∧ RS (ioB w φ fp S io) 0 φ' fp' S' [] m' { tmps := #[], defers := [] } w' ∧ IoOk io io' m' ∧
        ∃ fs, Own w' (fun _ => False) r v' fs ∧ fs.Nodup ∧ ∀ b, b ∈ fs → w.heap.size ≤ b ∧ ¬ S' b ∧ ∀ l, ioL ≤ l → b ∉ fp' l := by
    rintro a' w' ⟨φ', fp', S', ts', m', h', hk⟩
    refine ⟨h'.defers, ?_⟩
    obtain ⟨xs, us, h1, h2, h3, _⟩ := results_out h' fn.results.toList [] [] ⟨rfl, fun i hi => absurd hi (Nat.not_lt_zero _)⟩ hk
    obtain ⟨h3a, h3b⟩ := h3
    simp only [List.nil_append] at h3a h3b
    obtain ⟨ys, fss, g1, g2, g3, g4, g5, g6⟩ := ownAs_out h' h3a h3b h1
    obtain ⟨io', q1, q2, q3⟩ := sIo_out _ _ _ g1
    rw [List.reverse_nil, List.nil_append] at q1
    refine ⟨if h : us.toArray.size = 1 then us.toArray[0] else .tuple us.toArray, ?_, mkRes ys, _, io', φ', fp', S', m', rfl, q1, ?_, ⟨by simpa using q2, fun k hk hk' => ?_⟩, fss.flatten, mkRes_out (h3a.trans g2.symm) g3 g4, g5, fun b hb => ?_⟩
    · have hm : results fn a'.tmps = (do let vs ← fn.results.mapM (resOne a'.tmps); pure (if h : vs.size = 1 then vs[0] else .tuple vs)) := by
        unfold results
        congr 1
      rw [hm, Sem.run_bind, Array.mapM_eq_mapM_toList]
      have : (List.toArray <$> fn.results.toList.mapM (resOne a'.tmps) : Sem (Array Value)).run P w' = .ok us.toArray w' := by
        rw [map_eq_pure_bind, Sem.run_bind, h2]; rfl
      rw [this]; rfl
    · exact { h' with tm := fun t => by rw [look_nil]; exact .rd _ _ (.undef _), tl := fun t l ver hl => (by rw [look_nil] at hl; cases hl), defers := rfl, tsz := rfl }
    · have := q3 k hk (by simpa using hk')
      rw [Nat.zero_add] at this
      refine ⟨this.1, ?_, this.2.2⟩
      rw [this.2.1, List.getElem_map]
    · obtain ⟨l, hl, hbl⟩ := g6 b hb
      refine ⟨?_, h'.notS l b hbl, fun l' hl' hb' => ?_⟩
      · rcases (h'.fpB l b hbl).2 with hh | ⟨_, _, hh, _⟩
        · exact hh
        · exact absurd hl (Nat.not_lt.2 hh)
      · have := h'.dis l l' b hbl hb'
        subst this
        exact absurd hl (Nat.not_lt.2 hl')
  refine wp_mono (vc_sound c _ _ _ hok hv _ _ _ _ _ _ hRS) ?_
  intro e a' w' hq
  cases e with
  | normal => exact hend a' w' hq
  | ret => exact hend a' w' hq
  | _ => obtain ⟨_, _, _, _, _, _, hh⟩ := hq; exact hh.elim
theorem FnM.of_vc {P : Program} {f : FuncId} {fn : Func} {c : Code} {io : List Blk} {args : List AV} {post : AV → List Blk → Prop} (N : Nat) (rs : List ResultVar) (hf : P.funcs[f]? = some fn) (hN : fn.ntmps = N) (hr : fn.results.toList = rs)
    (hn : (fn.name == "runtime.NumGoroutine") = false) (hb : fn.body = some c) (hok : codeOk N c = true) (ha : args.length ≤ N) (hv : vc P N c (argsE 0 args) (ioM 0 io) (finM P rs (io.map Blk.ver) post)) : FnM P f io args post := by
  subst hN; subst hr; exact FnM.of_vc' hf hn hb hok ha hv
theorem FnM.mono {P : Program} {f : FuncId} {io : List Blk} {args : List AV} {post post' : AV → List Blk → Prop} (h : FnM P f io args post) (hp : ∀ r io', post r io' → post' r io') : FnM P f io args post' :=
  ⟨h.1, fun w φ fp S vs h1 h2 => (h.2 w φ fp S vs h1 h2).mono fun _ _ ⟨r, v, io', φ', fp', S', m', g1, g2, g3⟩ => ⟨r, v, io', φ', fp', S', m', g1, hp _ _ g2, g3⟩⟩

/- ---- calls -/
def sPos (l : Nat) (k : Nat → Prop) : Nat → List Nat → Prop
  | _, [] => False
  | j, l0 :: r => if l0 = l then k j else sPos l k (j + 1) r
theorem sPos_cons (l : Nat) (k : Nat → Prop) (j l0 : Nat) (r : List Nat) : sPos l k j (l0 :: r) = if l0 = l then k j else sPos l k (j + 1) r := rfl
def sRen (ρ : List Nat) (x : AV) (k : AV → Prop) : Prop := match x with
  | .ref l v i n => sPos l (fun j => k (.ref (1000000000 + j) v i n)) 0 ρ
  | .ptr l v i n => sPos l (fun j => k (.ptr (1000000000 + j) v i n)) 0 ρ
  | .val v => k (.val v)
  | .e0 => k .e0
  | .arr sh xs => k (.arr sh xs)
  | .eptr sh xs i j => k (.eptr sh xs i j)
  | _ => False
@[congr] theorem sRen_congr {ρ : List Nat} {x x' : AV} {k : AV → Prop} (h : x = x') : sRen ρ x k = sRen ρ x' k := by rw [h]
theorem sRen_ref (ρ : List Nat) (l v i n : Nat) (k : AV → Prop) : sRen ρ (.ref l v i n) k = sPos l (fun j => k (.ref (1000000000 + j) v i n)) 0 ρ := rfl
theorem sRen_ptr (ρ : List Nat) (l v i n : Nat) (k : AV → Prop) : sRen ρ (.ptr l v i n) k = sPos l (fun j => k (.ptr (1000000000 + j) v i n)) 0 ρ := rfl
theorem sRen_val (ρ : List Nat) (v : Value) (k : AV → Prop) : sRen ρ (.val v) k = k (.val v) := rfl
theorem sRen_e0 (ρ : List Nat) (k : AV → Prop) : sRen ρ .e0 k = k .e0 := rfl
theorem sRen_arr (ρ : List Nat) (sh : Sh) (xs : List AV) (k : AV → Prop) : sRen ρ (.arr sh xs) k = k (.arr sh xs) := rfl
theorem sRen_eptr (ρ : List Nat) (sh : Sh) (xs : List AV) (i j : Nat) (k : AV → Prop) : sRen ρ (.eptr sh xs i j) k = k (.eptr sh xs i j) := rfl
def sRenL (ρ : List Nat) (k : List AV → Prop) : List AV → List AV → Prop
  | acc, [] => k acc.reverse
  | acc, x :: r => sRen ρ x fun y => sRenL ρ k (y :: acc) r
theorem sRenL_nil (ρ : List Nat) (k : List AV → Prop) (acc : List AV) : sRenL ρ k acc [] = k acc.reverse := rfl
theorem sRenL_cons (ρ : List Nat) (k : List AV → Prop) (acc : List AV) (x : AV) (r : List AV) : sRenL ρ k acc (x :: r) = sRen ρ x fun y => sRenL ρ k (y :: acc) r := rfl
def sRenA (ρ : List Nat) (x : AV) (k : AV → Prop) : Prop := match x with
  | .agg xs => sRenL ρ (fun ys => k (.agg ys)) [] xs
  | x => sRen ρ x k
@[congr] theorem sRenA_congr {ρ : List Nat} {x x' : AV} {k : AV → Prop} (h : x = x') : sRenA ρ x k = sRenA ρ x' k := by rw [h]
theorem sRenA_agg (ρ : List Nat) (xs : List AV) (k : AV → Prop) : sRenA ρ (.agg xs) k = sRenL ρ (fun ys => k (.agg ys)) [] xs := rfl
theorem sRenA_ref (ρ : List Nat) (l v i n : Nat) (k : AV → Prop) : sRenA ρ (.ref l v i n) k = sPos l (fun j => k (.ref (1000000000 + j) v i n)) 0 ρ := rfl
theorem sRenA_ptr (ρ : List Nat) (l v i n : Nat) (k : AV → Prop) : sRenA ρ (.ptr l v i n) k = sPos l (fun j => k (.ptr (1000000000 + j) v i n)) 0 ρ := rfl
theorem sRenA_val (ρ : List Nat) (v : Value) (k : AV → Prop) : sRenA ρ (.val v) k = k (.val v) := rfl
theorem sRenA_e0 (ρ : List Nat) (k : AV → Prop) : sRenA ρ .e0 k = k .e0 := rfl
theorem sRenA_arr (ρ : List Nat) (sh : Sh) (xs : List AV) (k : AV → Prop) : sRenA ρ (.arr sh xs) k = k (.arr sh xs) := rfl
theorem sRenA_eptr (ρ : List Nat) (sh : Sh) (xs : List AV) (i j : Nat) (k : AV → Prop) : sRenA ρ (.eptr sh xs i j) k = k (.eptr sh xs i j) := rfl
def sRens (ρ : List Nat) (k : List AV → Prop) : List AV → List AV → Prop
  | acc, [] => k acc.reverse
  | acc, x :: r => sRenA ρ x fun y => sRens ρ k (y :: acc) r
theorem sRens_nil (ρ : List Nat) (k : List AV → Prop) (acc : List AV) : sRens ρ k acc [] = k acc.reverse := rfl
theorem sRens_cons (ρ : List Nat) (k : List AV → Prop) (acc : List AV) (x : AV) (r : List AV) : sRens ρ k acc (x :: r) = sRenA ρ x fun y => sRens ρ k (y :: acc) r := rfl

def notIn (l : Nat) : List Nat → Prop
  | [] => True
  | x :: r => l ≠ x ∧ notIn l r
theorem notIn_nil (l : Nat) : notIn l [] = True := rfl
theorem notIn_cons (l x : Nat) (r : List Nat) : notIn l (x :: r) = (l ≠ x ∧ notIn l r) := rfl
theorem notIn_out {l : Nat} : ∀ {r : List Nat}, notIn l r → l ∉ r
  | [], _, h => by cases h
  | _ :: _, h, hm => by
    rcases List.mem_cons.1 hm with e | hm
    · exact h.1 e
    · exact notIn_out h.2 hm
def sSel1 (b : Option Blk) (k : Blk → Prop) : Prop := match b with
  | some (.row v sh d xs) => k (.row v sh d xs)
  | some (.box v xs) => labsL xs = [] ∧ k (.box v xs)
  | _ => False
@[congr] theorem sSel1_congr {b b' : Option Blk} {k : Blk → Prop} (h : b = b') : sSel1 b k = sSel1 b' k := by rw [h]
theorem sSel1_row (v : Nat) (sh : Sh) (d : Bool) (xs : List AV) (k : Blk → Prop) : sSel1 (some (.row v sh d xs)) k = k (.row v sh d xs) := rfl
theorem sSel1_box (v : Nat) (xs : List AV) (k : Blk → Prop) : sSel1 (some (.box v xs)) k = (labsL xs = [] ∧ k (.box v xs)) := rfl
def sSel (m : Mem) (k : List Blk → Prop) : List Blk → List Nat → Prop
  | acc, [] => k acc.reverse
  | acc, l :: r => notIn l r ∧ sSel1 (lookB m l) fun b => sSel m k (b :: acc) r
theorem sSel_nil (m : Mem) (k : List Blk → Prop) (acc : List Blk) : sSel m k acc [] = k acc.reverse := rfl
theorem sSel_cons (m : Mem) (k : List Blk → Prop) (acc : List Blk) (l : Nat) (r : List Nat) : sSel m k acc (l :: r) = (notIn l r ∧ sSel1 (lookB m l) fun b => sSel m k (b :: acc) r) := rfl
def putIo : List Nat → List Blk → Mem → Mem
  | l :: ρ, b :: io, m => (l, b) :: putIo ρ io m
  | _, _, m => m
theorem putIo_cons (l : Nat) (ρ : List Nat) (b : Blk) (io : List Blk) (m : Mem) : putIo (l :: ρ) (b :: io) m = (l, b) :: putIo ρ io m := rfl
theorem putIo_nil (io : List Blk) (m : Mem) : putIo [] io m = m := rfl

/-- A call whose contract speaks of blocks of ours. -/
def sCallM (P : Program) (f : FuncId) (d : Nat) (ρ : List Nat) (io : List Blk) (args : List AV) (m : Mem) (k : AV → Mem → Prop) (_ : Pack k) : Prop :=
  ∃ post, FnM P f io args post ∧ ∀ r io', post r io' → sMat (1000 * (d + 1)) r (putIo ρ io' m) k
@[congr] theorem sCallM_congr {P : Program} {f : FuncId} {d : Nat} {ρ : List Nat} {io io' : List Blk} {args args' : List AV} {m : Mem} {k : AV → Mem → Prop} {q : Pack k} (h : io = io') (h' : args = args') : sCallM P f d ρ io args m k q = sCallM P f d ρ io' args' m k q := by rw [h, h']
theorem sCallM_one {P : Program} {f : FuncId} {d : Nat} {ρ : List Nat} {io io1 : List Blk} {args : List AV} {m : Mem} {k : AV → Mem → Prop} {r : AV} (h : FnM P f io args (fun x io' => x = r ∧ io' = io1)) (hk : sMat (1000 * (d + 1)) r (putIo ρ io1 m) k) {q : Pack k} : sCallM P f d ρ io args m k q :=
  ⟨_, h, fun _ _ ⟨e, e'⟩ => by subst e; subst e'; exact hk⟩
theorem sCallM_any {P : Program} {f : FuncId} {d : Nat} {ρ : List Nat} {io : List Blk} {args : List AV} {post : AV → List Blk → Prop} {m : Mem} {k : AV → Mem → Prop} (h : FnM P f io args post) (hk : ∀ r io', post r io' → sMat (1000 * (d + 1)) r (putIo ρ io' m) k) {q : Pack k} : sCallM P f d ρ io args m k q :=
  ⟨_, h, hk⟩

section
variable {P : Program} {B : Base} {N : Nat} {φ : Nat → LS} {fp : Nat → List Nat} {S : Nat → Prop} {ts : Env} {m : Mem} {a : Act} {w : World}

theorem sSel_out {k : List Blk → Prop} : ∀ (ρ : List Nat) (acc : List Blk), sSel m k acc ρ → ρ.Nodup ∧ ∃ io, k (acc.reverse ++ io) ∧ io.length = ρ.length ∧ ∀ j (h : j < ρ.length) (h' : j < io.length), lookB m ρ[j] = some io[j] ∧ labFree io[j]
  | [], acc, hk => by
    have hk1 : k acc.reverse := hk
    exact ⟨List.nodup_nil, [], by simpa using hk1, rfl, fun j h => absurd h (Nat.not_lt_zero _)⟩
  | l :: r, acc, hk => by
    obtain ⟨hn, hk⟩ := hk
    have main : ∀ b, lookB m l = some b → labFree b → sSel m k (b :: acc) r → (l :: r).Nodup ∧ ∃ io, k (acc.reverse ++ io) ∧ io.length = (l :: r).length ∧ ∀ j (h : j < (l :: r).length) (h' : j < io.length), lookB m (l :: r)[j] = some io[j] ∧ labFree io[j] := by
      intro b hb hf hk
      obtain ⟨h0, io, h1, h2, h3⟩ := sSel_out r (b :: acc) hk
      refine ⟨List.nodup_cons.2 ⟨notIn_out hn, h0⟩, b :: io, by simpa using h1, by simp [h2], fun j hj hj' => ?_⟩
      cases j with
      | zero => exact ⟨hb, hf⟩
      | succ j => exact h3 j (by simpa using hj) (by simpa using hj')
    unfold sSel1 at hk
    split at hk
    · rename_i hb; exact main _ hb trivial hk
    · rename_i hb; exact main _ hb hk.1 hk.2
    · exact hk.elim

theorem sPos_out {l : Nat} {k : Nat → Prop} : ∀ (ρ : List Nat) (i : Nat), sPos l k i ρ → ∃ j, ∃ h : j < ρ.length, ρ[j] = l ∧ k (i + j)
  | [], _, hk => hk.elim
  | l0 :: r, i, hk => by
    rw [sPos_cons] at hk
    split at hk
    · rename_i e; exact ⟨0, by simp, e, hk⟩
    · obtain ⟨j, h1, h2, h3⟩ := sPos_out r (i + 1) hk
      exact ⟨j + 1, by simpa using h1, by simpa using h2, by rw [show i + (j + 1) = i + 1 + j by omega]; exact h3⟩

/-- how the caller's labels lie as the callee's -/
def φio (φ : Nat → LS) (ρ : List Nat) : Nat → LS := fun l => if ioL ≤ l then (match ρ[l - ioL]? with | some l' => φ l' | none => .dead) else .dead
def fpio (fp : Nat → List Nat) (ρ : List Nat) : Nat → List Nat := fun l => if ioL ≤ l then (match ρ[l - ioL]? with | some l' => fp l' | none => []) else []
theorem φio_at (φ : Nat → LS) {ρ : List Nat} {j : Nat} (h : j < ρ.length) : φio φ ρ (ioL + j) = φ ρ[j] := by simp [φio, h]
theorem fpio_at (fp : Nat → List Nat) {ρ : List Nat} {j : Nat} (h : j < ρ.length) : fpio fp ρ (ioL + j) = fp ρ[j] := by simp [fpio, h]
theorem fpio_mem {fp : Nat → List Nat} {ρ : List Nat} {l b : Nat} (h : b ∈ fpio fp ρ l) : ∃ j, ∃ hj : j < ρ.length, l = ioL + j ∧ b ∈ fp ρ[j] := by
  unfold fpio at h
  split at h
  · rename_i hl
    split at h
    · rename_i l' hl'
      obtain ⟨hj, e⟩ := List.getElem?_eq_some_iff.1 hl'
      exact ⟨l - ioL, hj, by omega, by rw [e]; exact h⟩
    · cases h
  · cases h

theorem ren_out {io : List Blk} {ρ : List Nat} (hio : io.length = ρ.length) (hlk : ∀ j (h : j < ρ.length) (h' : j < io.length), lookB m ρ[j] = some io[j] ∧ labFree io[j]) {x : AV} {v : Value} (hx : RV w S φ x v) (hxl : ∀ l ver, (l, ver) ∈ labs x → known m l ver)
    {k : AV → Prop} (hk : sRen ρ x k) : ∃ y, k y ∧ RV w S (φio φ ρ) y v ∧ leaf y ∧ ∀ l ver, (l, ver) ∈ labs y → known (ioM 0 io) l ver := by
  have kn : ∀ j (hj : j < ρ.length) ver, known m ρ[j] ver → known (ioM 0 io) (ioL + j) ver := by
    rintro j hj ver ⟨k', h1, h2⟩
    rw [(hlk j hj (by omega)).1] at h1
    have h1 := Option.some.inj h1
    refine ⟨io[j]'(by omega), ?_, by rw [h1]; exact h2⟩
    rw [lookB_ioM, if_pos (by omega)]
    simp <;> omega
  have flat : ∀ y, labs y = [] → leaf y → k y → RV w S φ y v → ∃ y, k y ∧ RV w S (φio φ ρ) y v ∧ leaf y ∧ ∀ l ver, (l, ver) ∈ labs y → known (ioM 0 io) l ver := by
    intro y hl hlf hk hv
    exact ⟨y, hk, .rd _ _ (rd_of_rv hv hl), hlf, fun l ver h => by rw [hl] at h; cases h⟩
  unfold sRen at hk
  split at hk
  · rename_i l ver i n
    obtain ⟨j, hj, rfl, hk1⟩ := sPos_out ρ 0 hk
    simp only [Nat.zero_add] at hk1
    obtain ⟨r1, r2⟩ := rv_ref hx
    have h3 : v.oneCell' = true := hx.leaf_oneCell trivial
    refine ⟨_, hk1, .ref _ _ _ _ _ (fun b sh hb => ?_) (fun hb => ?_) h3, trivial, fun l' ver' hl' => ?_⟩
    · rw [show (1000000000 + j) = ioL + j from rfl, φio_at φ hj] at hb
      exact r1 b sh hb
    · rw [show (1000000000 + j) = ioL + j from rfl, φio_at φ hj] at hb
      exact r2 hb
    · simp only [labs, List.mem_singleton, Prod.mk.injEq] at hl'
      obtain ⟨rfl, rfl⟩ := hl'
      exact kn j hj _ (hxl _ _ (by simp [labs]))
  · rename_i l ver i n
    obtain ⟨j, hj, rfl, hk1⟩ := sPos_out ρ 0 hk
    simp only [Nat.zero_add] at hk1
    have h3 : v.oneCell' = true := hx.leaf_oneCell trivial
    refine ⟨_, hk1, ?_, trivial, fun l' ver' hl' => ?_⟩
    · cases hx with
      | rd _ _ h => cases h
      | ptr _ _ _ _ _ h1 h2 _ =>
        refine .ptr _ _ _ _ _ (fun b sh hb => ?_) (fun hb => ?_) h3
        · rw [show (1000000000 + j) = ioL + j from rfl, φio_at φ hj] at hb
          exact h1 b sh hb
        · rw [show (1000000000 + j) = ioL + j from rfl, φio_at φ hj] at hb
          exact h2 hb
    · simp only [labs, List.mem_singleton, Prod.mk.injEq] at hl'
      obtain ⟨rfl, rfl⟩ := hl'
      exact kn j hj _ (hxl _ _ (by simp [labs]))
  · rename_i u; exact flat (.val u) rfl trivial hk hx
  · exact flat .e0 rfl trivial hk hx
  · rename_i sh xs; exact flat (.arr sh xs) rfl trivial hk hx
  · rename_i sh xs i j; exact flat (.eptr sh xs i j) rfl trivial hk hx
  · exact hk.elim

theorem renL_out {io : List Blk} {ρ : List Nat} (hio : io.length = ρ.length) (hlk : ∀ j (h : j < ρ.length) (h' : j < io.length), lookB m ρ[j] = some io[j] ∧ labFree io[j]) {Q : List AV → Prop} :
    ∀ (xs : List AV) (vs : List Value) (acc : List AV), vs.length = xs.length → (∀ i (h : i < xs.length), RV w S φ xs[i] (vs.getD i Go.undef)) → (∀ i (h : i < xs.length) l ver, (l, ver) ∈ labs xs[i] → known m l ver) → sRenL ρ Q acc xs →
      ∃ ys, Q (acc.reverse ++ ys) ∧ ys.length = xs.length ∧ ∀ i (h : i < ys.length), RV w S (φio φ ρ) ys[i] (vs.getD i Go.undef) ∧ leaf ys[i] ∧ ∀ l ver, (l, ver) ∈ labs ys[i] → known (ioM 0 io) l ver
  | [], vs, acc, _, _, _, hk => by
    have hk1 : Q acc.reverse := hk
    exact ⟨[], by simpa using hk1, rfl, fun i h => absurd h (Nat.not_lt_zero _)⟩
  | x :: xs, vs, acc, hl, hx, hxl, hk => by
    cases vs with
    | nil => simp at hl
    | cons v vs =>
      obtain ⟨y, h1, h2, h3, h4⟩ := ren_out hio hlk (hx 0 (by simp)) (hxl 0 (by simp)) hk
      obtain ⟨ys, g1, g2, g3⟩ := renL_out hio hlk xs vs (y :: acc) (by simpa using hl) (fun i hi => hx (i + 1) (by simpa using hi)) (fun i hi => hxl (i + 1) (by simpa using hi)) h1
      refine ⟨y :: ys, by simpa using g1, by simp [g2], fun i hi => ?_⟩
      cases i with
      | zero => exact ⟨h2, h3, h4⟩
      | succ i => exact g3 i (by simpa using hi)

theorem renA_out {io : List Blk} {ρ : List Nat} (hio : io.length = ρ.length) (hlk : ∀ j (h : j < ρ.length) (h' : j < io.length), lookB m ρ[j] = some io[j] ∧ labFree io[j]) {x : AV} {v : Value} (hx : RV w S φ x v) (hxl : ∀ l ver, (l, ver) ∈ labs x → known m l ver)
    {k : AV → Prop} (hk : sRenA ρ x k) : ∃ y, k y ∧ RV w S (φio φ ρ) y v ∧ ∀ l ver, (l, ver) ∈ labs y → known (ioM 0 io) l ver := by
  unfold sRenA at hk
  split at hk
  · rename_i xs
    obtain ⟨cs, rfl, h1, h2, h3⟩ := rv_agg hx
    obtain ⟨ys, g1, g2, g3⟩ := renL_out hio hlk xs cs.toList [] (by simpa using h1) h3 (fun i hi l ver hl => hxl l ver (by simp only [labs]; exact mem_labsL hi hl)) hk
    refine ⟨.agg ys, by simpa using g1, .agg ys cs (h1.trans g2.symm) (fun i hi => (g3 i hi).2.1) (fun i hi => (g3 i hi).1), fun l ver hl => ?_⟩
    simp only [labs] at hl
    obtain ⟨i, hi, hl⟩ := of_mem_labsL hl
    exact (g3 i hi).2.2 l ver hl
  · obtain ⟨y, h1, h2, _, h4⟩ := ren_out hio hlk hx hxl hk
    exact ⟨y, h1, h2, h4⟩

theorem rens_out {io : List Blk} {ρ : List Nat} (hio : io.length = ρ.length) (hlk : ∀ j (h : j < ρ.length) (h' : j < io.length), lookB m ρ[j] = some io[j] ∧ labFree io[j]) {Q : List AV → Prop} :
    ∀ (xs : List AV) (vs : List Value) (acc : List AV), vs.length = xs.length → (∀ i (h : i < xs.length), RV w S φ xs[i] (vs.getD i Go.undef)) → (∀ i (h : i < xs.length) l ver, (l, ver) ∈ labs xs[i] → known m l ver) → sRens ρ Q acc xs →
      ∃ ys, Q (acc.reverse ++ ys) ∧ ys.length = xs.length ∧ ∀ i (h : i < ys.length), RV w S (φio φ ρ) ys[i] (vs.getD i Go.undef) ∧ ∀ l ver, (l, ver) ∈ labs ys[i] → known (ioM 0 io) l ver
  | [], vs, acc, _, _, _, hk => by
    have hk1 : Q acc.reverse := hk
    exact ⟨[], by simpa using hk1, rfl, fun i h => absurd h (Nat.not_lt_zero _)⟩
  | x :: xs, vs, acc, hl, hx, hxl, hk => by
    cases vs with
    | nil => simp at hl
    | cons v vs =>
      obtain ⟨y, h1, h2, h4⟩ := renA_out hio hlk (hx 0 (by simp)) (hxl 0 (by simp)) hk
      obtain ⟨ys, g1, g2, g3⟩ := rens_out hio hlk xs vs (y :: acc) (by simpa using hl) (fun i hi => hx (i + 1) (by simpa using hi)) (fun i hi => hxl (i + 1) (by simpa using hi)) h1
      refine ⟨y :: ys, by simpa using g1, by simp [g2], fun i hi => ?_⟩
      cases i with
      | zero => exact ⟨h2, h4⟩
      | succ i => exact g3 i (by simpa using hi)

theorem lookB_putIo : ∀ (ρ : List Nat) (io : List Blk), io.length = ρ.length → ρ.Nodup → ∀ l, (∀ j (h : j < ρ.length), ρ[j] = l → lookB (putIo ρ io m) l = io[j]?) ∧ (l ∉ ρ → lookB (putIo ρ io m) l = lookB m l)
  | [], io, _, _, l => ⟨fun j h => absurd h (Nat.not_lt_zero _), fun _ => by rw [putIo_nil]⟩
  | l0 :: ρ, [], h, _, _ => by simp at h
  | l0 :: ρ, b :: io, h, hn, l => by
    obtain ⟨hn1, hn2⟩ := List.nodup_cons.1 hn
    obtain ⟨ih1, ih2⟩ := lookB_putIo ρ io (by simpa using h) hn2 l
    refine ⟨fun j hj e => ?_, fun hl => ?_⟩
    · rw [putIo_cons, lookB_cons]
      cases j with
      | zero => rw [if_pos (by simpa using e)]; rfl
      | succ j =>
        have e' : ρ[j]'(by simpa using hj) = l := by simpa using e
        rw [if_neg (fun e2 => hn1 (by rw [e2, ← e']; exact List.getElem_mem _))]
        rw [ih1 j (by simpa using hj) e']; rfl
    · rw [putIo_cons, lookB_cons, if_neg (fun e => hl (by rw [← e]; exact List.mem_cons_self ..))]
      exact ih2 fun hm => hl (List.mem_cons_of_mem _ hm)

theorem callM_core {f : FuncId} {ρ : List Nat} {io : List Blk} {args xs : List AV} (hnd : ρ.Nodup) (hio : io.length = ρ.length)
    (hlk : ∀ j (h : j < ρ.length) (h' : j < io.length), lookB m ρ[j] = some io[j] ∧ labFree io[j]) {vs : Array Value} (h : RS B N φ fp S ts m a w) (hvl : vs.size = args.length)
    (hx : ∀ i (h : i < args.length), RV w S (φio φ ρ) args[i] (vs.toList.getD i Go.undef) ∧ ∀ l ver, (l, ver) ∈ labs args[i] → known (ioM 0 io) l ver) {post : AV → List Blk → Prop} (hf : FnM P f io args post) :
    Calls P f vs w fun e w' => ∃ v r io' fp2 T fs, e = .returned v ∧ post r io' ∧ RS B N φ fp2 T ts (putIo ρ io' m) a w' ∧ Szs w w' ∧ io'.length = ρ.length ∧
      Own w' (fun _ => False) r v fs ∧ (∀ j (h : j < ρ.length) b, b ∈ fp2 ρ[j] → w.heap.size ≤ b ∨ b ∈ fp ρ[j]) ∧ fs.Nodup ∧ ∀ b, b ∈ fs → w.heap.size ≤ b ∧ ¬ T b ∧ ∀ l, b ∉ fp2 l := by
  have inj : ∀ i j (hi : i < ρ.length) (hj : j < ρ.length), ρ[i] = ρ[j] → i = j := fun i j hi hj e => (List.getElem_inj hnd).1 e
  have look0 : ∀ l, lookB (ioM 0 io) l = if ioL ≤ l then io[l - ioL]? else none := fun l => by rw [lookB_ioM]; rfl
  have at_ : ∀ l b, lookB (ioM 0 io) l = some b → ∃ j, ∃ hj : j < ρ.length, ∃ hj' : j < io.length, l = ioL + j ∧ b = io[j] := by
    intro l b hb
    rw [look0] at hb
    split at hb
    · rename_i hl
      obtain ⟨hj, e⟩ := List.getElem?_eq_some_iff.1 hb
      exact ⟨l - ioL, by omega, hj, by omega, e.symm⟩
    · cases hb
  have hR0 : RS (ioB w (φio φ ρ) (fpio fp ρ) S io) vs.size (φio φ ρ) (fpio fp ρ) S (argsE 0 args) (ioM 0 io) { tmps := vs, defers := [] } w := by
    refine { tm := fun t => ?_, tl := fun t l ver hl => ?_, mNone := fun l hl => ?_, mSome := fun l b hb => ?_, bl := fun l v xs hb l' ver hl => ?_, nod := fun l => ?_, dis := fun l l' b h1 h2 => ?_,
             notS := fun l b hb => ?_, fpB := fun l b hb => ?_, sB := fun b hb => ⟨(h.sB b hb).1, .inr hb⟩, base := fun b _ _ => rfl, out := SameOut.refl _, szs := Szs.refl _, kn := fun _ _ _ hk => hk, fix := fun _ _ _ _ => LS.le_refl _ _,
             size := Nat.le_refl _, defers := rfl, tsz := rfl, kon := h.kon }
    · rw [look_argsE]
      by_cases ht : t < args.length
      · have e : (if 0 ≤ t then (args[t - 0]?).getD AV.undef else .undef) = args[t] := by simp [ht]
        rw [e]
        have := (hx t ht).1
        have e2 : vs.toList.getD t Go.undef = vs.getD t Go.undef := by
          simp [List.getD_eq_getElem?_getD, Array.getD_eq_getD_getElem?]
        rw [← e2]; exact this
      · have e : (if 0 ≤ t then (args[t - 0]?).getD AV.undef else .undef) = .undef := by simp [List.getElem?_eq_none (show args.length ≤ t by omega)]
        rw [e]; exact .rd _ _ (.undef _)
    · rw [look_argsE] at hl
      by_cases ht : t < args.length
      · have e : (if 0 ≤ t then (args[t - 0]?).getD AV.undef else .undef) = args[t] := by simp [ht]
        rw [e] at hl
        exact (hx t ht).2 l ver hl
      · have e : (if 0 ≤ t then (args[t - 0]?).getD AV.undef else .undef) = .undef := by simp [List.getElem?_eq_none (show args.length ≤ t by omega)]
        rw [e] at hl; cases hl
    · rw [look0] at hl
      unfold φio fpio
      split at hl
      · rename_i hl'
        have : ρ[l - ioL]? = none := List.getElem?_eq_none (by have := List.getElem?_eq_none_iff.1 hl; omega)
        rw [if_pos hl', if_pos hl', this]; exact ⟨rfl, rfl⟩
      · rename_i hl'
        rw [if_neg hl', if_neg hl']; exact ⟨rfl, rfl⟩
    · obtain ⟨j, hj, hj', rfl, rfl⟩ := at_ l b hb
      have hb0 := h.mSome ρ[j] _ (hlk j hj hj').1
      have hfr := (hlk j hj hj').2
      rw [fpio_at fp hj]
      generalize io[j] = b at hb0 hfr
      cases b with
      | gone v => exact ⟨by rw [φio_at φ hj]; exact hb0.1, hb0.2⟩
      | row v sh dp xs =>
        rcases hb0 with ⟨q1, q2, q3⟩ | ⟨b, cap, q1, q2⟩
        · exact .inl ⟨by rw [φio_at φ hj]; exact q1, q2, q3⟩
        · exact .inr ⟨b, cap, by rw [φio_at φ hj]; exact q1, q2⟩
      | lent v xs i u => exact hfr.elim
      | box v xs =>
        obtain ⟨b, cs, e, sh, q1, q2, q3, q4, q5, q6⟩ := hb0
        exact ⟨b, cs, e, sh, by rw [φio_at φ hj]; exact q1, q2, q3, q4, q5, fun i hi => .rd _ _ (rd_of_rv (q6 i hi) (labs_nil_get hfr i hi))⟩
    · obtain ⟨j, hj, hj', rfl, e⟩ := at_ l _ hb
      have hfr := (hlk j hj hj').2
      rw [← e] at hfr
      have hfr : labsL xs = [] := hfr
      rw [hfr] at hl; cases hl
    · unfold fpio
      split
      · split
        · exact h.nod _
        · exact List.nodup_nil
      · exact List.nodup_nil
    · obtain ⟨i, hi, rfl, b1⟩ := fpio_mem h1
      obtain ⟨j, hj, rfl, b2⟩ := fpio_mem h2
      have := inj i j hi hj (h.dis _ _ b b1 b2)
      subst this; rfl
    · obtain ⟨i, hi, rfl, b1⟩ := fpio_mem hb
      exact h.notS _ b b1
    · obtain ⟨i, hi, rfl, b1⟩ := fpio_mem hb
      exact ⟨(h.fpB _ b b1).1, .inr ⟨_, hb, by omega, .inl rfl⟩⟩
  refine (hf.2 w (φio φ ρ) (fpio fp ρ) S vs hvl hR0).mono ?_
  rintro e w' ⟨r, v, io', φ', fp', S', m', rfl, hpost, hR, ⟨hl', hok⟩, fs, hown, hndf, hfr⟩
  have hl2 : io'.length = ρ.length := hl'.trans hio
  have hsame : ∀ b : Nat, b < w.heap.size → (∀ j (hj : j < ρ.length), b ∉ fp ρ[j]) → w'.heap[b]? = w.heap[b]? := fun b hb hn => hR.base b hb fun l hb' => by
    obtain ⟨j, hj, rfl, hb2⟩ := fpio_mem hb'
    exact hn j hj hb2
  have hSsame : ∀ b, S b → w'.heap[b]? = w.heap[b]? := fun b hb => hsame b (h.sB b hb).1 fun j hj hb' => h.notS _ b hb' hb
  have hz : Sized φ w w' := fun l b sh ver cs e _ hb => hR.szs b cs e hb
  have hm2 := fun l => lookB_putIo (m := m) ρ io' hl2 hnd l
  have hkn : ∀ l ver, known m l ver → known (putIo ρ io' m) l ver := by
    rintro l ver ⟨k', h1, h2⟩
    by_cases hl : l ∈ ρ
    · obtain ⟨j, hj, rfl⟩ := List.getElem_of_mem hl
      have e := (hm2 ρ[j]).1 j hj rfl
      rw [List.getElem?_eq_getElem (by omega)] at e
      rw [(hlk j hj (by omega)).1] at h1
      have h1 := Option.some.inj h1
      exact ⟨_, e, by rw [(hok j (by omega) (by omega)).2.1, h1]; exact h2⟩
    · exact ⟨k', ((hm2 l).2 hl).trans h1, h2⟩
  let T : Nat → Prop := fun b => S b ∨ (S' b ∧ w.heap.size ≤ b)
  have hST : ∀ b, S' b → T b := fun b hb => by
    rcases (hR.sB b hb).2 with hh | hh
    · exact .inr ⟨hb, hh⟩
    · exact .inl hh
  let fp2 : Nat → List Nat := fun l => match ρ.idxOf? l with | some j => fp' (ioL + j) | none => fp l
  have fp2in : ∀ j (hj : j < ρ.length), fp2 ρ[j] = fp' (ioL + j) := by
    intro j hj
    have : ρ.idxOf? ρ[j] = some j := by
      rw [List.idxOf?, List.findIdx?_eq_some_iff_getElem]
      refine ⟨hj, by simp, fun i hi => ?_⟩
      simp only [beq_iff_eq, Bool.not_eq_true, beq_eq_false_iff_ne, ne_eq]
      intro e2
      have := inj i j (by omega) hj e2
      omega
    show (match ρ.idxOf? ρ[j] with | some j => fp' (ioL + j) | none => fp ρ[j]) = _
    rw [this]
  have fp2out : ∀ l, l ∉ ρ → fp2 l = fp l := by
    intro l hl
    have : ρ.idxOf? l = none := by simpa [List.idxOf?_eq_none_iff] using hl
    show (match ρ.idxOf? l with | some j => fp' (ioL + j) | none => fp l) = _
    rw [this]
  have fpnew : ∀ j (hj : j < ρ.length) b, b ∈ fp' (ioL + j) → b < w'.heap.size ∧ (w.heap.size ≤ b ∨ b ∈ fp ρ[j]) := by
    intro j hj b hb
    have := hR.fpB _ b hb
    refine ⟨this.1, this.2.imp id fun hh => ?_⟩
    obtain ⟨l', hb2, _, hl3⟩ := hh
    have hl3 : l' = ioL + j := hl3.resolve_right fun e => by
      have e : lookB (ioM 0 io) (ioL + j) = none := e
      rw [look0, if_pos (by omega), List.getElem?_eq_none_iff] at e; omega
    subst hl3
    have hh : b ∈ fpio fp ρ (ioL + j) := hb2
    rwa [fpio_at fp hj] at hh
  have hRS : RS B N φ fp2 T ts (putIo ρ io' m) a w' := by
    refine { tm := fun t => (h.tm t).mono hSsame (fun b hb => .inl hb) hz fun l ver _ => LS.le_refl _ _, tl := fun t l ver hl => hkn l ver (h.tl t l ver hl), mNone := fun l hl => ?_, mSome := fun l b hb => ?_,
             bl := fun l v xs hb l' ver hl => ?_, nod := fun l => ?_, dis := fun l l' b h1 h2 => ?_, notS := fun l b hb => ?_, fpB := fun l b hb => ?_, sB := fun b hb => ?_, base := fun b hb hio => ?_,
             out := h.out.trans hR.out, szs := h.szs.trans hR.szs, kn := fun l ver hl hk => hkn l ver (h.kn l ver hl hk), fix := h.fix, size := Nat.le_trans h.size hR.size, defers := h.defers, tsz := h.tsz, kon := h.kon.mono hSsame fun b hb => .inl hb }
    · by_cases hm : l ∈ ρ
      · obtain ⟨j, hj, rfl⟩ := List.getElem_of_mem hm
        rw [(hm2 ρ[j]).1 j hj rfl, List.getElem?_eq_getElem (by omega)] at hl; cases hl
      · rw [(hm2 l).2 hm] at hl
        rw [fp2out l hm]; exact h.mNone l hl
    · by_cases hm : l ∈ ρ
      · obtain ⟨j, hj, rfl⟩ := List.getElem_of_mem hm
        rw [(hm2 ρ[j]).1 j hj rfl, List.getElem?_eq_getElem (by omega)] at hb
        have hb := Option.some.inj hb
        subst hb
        obtain ⟨g1, g2, g3⟩ := hok j (by omega) (by omega)
        have hB := hR.mSome _ _ g1
        have hkn0 : known (ioM 0 io) (ioL + j) (io[j]'(by omega)).ver := ⟨io[j]'(by omega), by rw [look0, if_pos (by omega)]; simp <;> omega, Nat.le_refl _⟩
        have hfix := hR.fix (ioL + j) _ (by omega) hkn0
        have hfix : LS.le (φ' (ioL + j)) (φ ρ[j]) (io[j]'(by omega)).ver := by rw [← φio_at φ hj]; exact hfix
        rw [fp2in j hj]
        rw [← g2] at hfix
        generalize io'[j] = b at hB hfix g3
        cases b with
        | gone v => exact g3.elim
        | row v sh dp xs =>
          rcases hB with ⟨q1, q2, q3⟩ | ⟨b, cap, q1, q2, q3, q4⟩
          · exact .inl ⟨hfix.2 q1, q2, q3⟩
          · refine .inr ⟨b, cap, hfix.1 _ _ q1, q2, q3, ?_⟩
            cases dp with
            | true => exact q4
            | false => exact q4.mono (fun _ _ => rfl) hST (fun _ _ => rfl)
        | lent v xs i u => exact g3.elim
        | box v xs =>
          obtain ⟨b, cs, e, sh, q1, q2, q3, q4, q5, q6⟩ := hB
          exact ⟨b, cs, e, sh, hfix.1 _ _ q1, q2, q3, q4, q5, fun i hi => .rd _ _ ((rd_of_rv (q6 i hi) (labs_nil_get g3 i hi)).mono (fun _ _ => rfl) hST)⟩
      · rw [(hm2 l).2 hm] at hb
        rw [fp2out l hm]
        refine (h.mSome l b hb).mono hSsame (fun b hb => .inl hb) hz (fun c hc => hsame c (h.fpB l c hc).1 fun j hj hc' => hm ?_) rfl fun _ _ _ _ _ _ => LS.le_refl _ _
        rw [h.dis _ _ c hc hc']; exact List.getElem_mem hj
    · by_cases hm : l ∈ ρ
      · obtain ⟨j, hj, rfl⟩ := List.getElem_of_mem hm
        rw [(hm2 ρ[j]).1 j hj rfl, List.getElem?_eq_getElem (by omega)] at hb
        have hb := Option.some.inj hb
        have g3 := (hok j (by omega) (by omega)).2.2
        rw [hb] at g3
        have g3 : labsL xs = [] := g3
        rw [g3] at hl; cases hl
      · rw [(hm2 l).2 hm] at hb
        exact hkn l' ver (h.bl l v xs hb l' ver hl)
    · by_cases hm : l ∈ ρ
      · obtain ⟨j, hj, rfl⟩ := List.getElem_of_mem hm
        rw [fp2in j hj]; exact hR.nod _
      · rw [fp2out l hm]; exact h.nod l
    · have mixed : ∀ j (hj : j < ρ.length) l, l ∉ ρ → b ∈ fp' (ioL + j) → b ∈ fp l → False := by
        intro j hj l hm b1 b2
        rcases (fpnew j hj b b1).2 with hh | hh
        · have := (h.fpB l b b2).1; omega
        · exact hm (by rw [h.dis _ _ b b2 hh]; exact List.getElem_mem hj)
      by_cases m1 : l ∈ ρ
      · obtain ⟨j, hj, rfl⟩ := List.getElem_of_mem m1
        rw [fp2in j hj] at h1
        by_cases m2 : l' ∈ ρ
        · obtain ⟨j', hj', rfl⟩ := List.getElem_of_mem m2
          rw [fp2in j' hj'] at h2
          have := hR.dis _ _ b h1 h2
          have : j = j' := by omega
          subst this; rfl
        · rw [fp2out l' m2] at h2
          exact (mixed j hj l' m2 h1 h2).elim
      · rw [fp2out l m1] at h1
        by_cases m2 : l' ∈ ρ
        · obtain ⟨j', hj', rfl⟩ := List.getElem_of_mem m2
          rw [fp2in j' hj'] at h2
          exact (mixed j' hj' l m1 h2 h1).elim
        · rw [fp2out l' m2] at h2
          exact h.dis l l' b h1 h2
    · by_cases hm : l ∈ ρ
      · obtain ⟨j, hj, rfl⟩ := List.getElem_of_mem hm
        rw [fp2in j hj] at hb
        rintro (hs | hs)
        · rcases (fpnew j hj b hb).2 with hh | hh
          · have := (h.sB b hs).1; omega
          · exact h.notS _ b hh hs
        · exact hR.notS _ b hb hs.1
      · rw [fp2out l hm] at hb
        rintro (hs | hs)
        · exact h.notS l b hb hs
        · have := (h.fpB l b hb).1; omega
    · by_cases hm : l ∈ ρ
      · obtain ⟨j, hj, rfl⟩ := List.getElem_of_mem hm
        rw [fp2in j hj] at hb
        have := fpnew j hj b hb
        refine ⟨this.1, ?_⟩
        rcases this.2 with hh | hh
        · exact .inl (Nat.le_trans h.size hh)
        · exact (h.fpB _ b hh).2
      · rw [fp2out l hm] at hb
        have := h.fpB l b hb
        exact ⟨Nat.lt_of_lt_of_le this.1 hR.size, this.2⟩
    · rcases hb with hs | hs
      · have := h.sB b hs
        exact ⟨Nat.lt_of_lt_of_le this.1 hR.size, this.2⟩
      · exact ⟨(hR.sB b hs.1).1, .inl (Nat.le_trans h.size hs.2)⟩
    · refine (hsame b (Nat.lt_of_lt_of_le hb h.size) fun j hj hb' => ?_).trans (h.base b hb hio)
      rcases (h.fpB _ b hb').2 with hh | hh
      · omega
      · exact hio _ hh.choose_spec.1
  refine ⟨v, r, io', fp2, T, fs, rfl, hpost, hRS, hR.szs, hl2, hown, fun j hj b hb => (fpnew j hj b (by rw [← fp2in j hj]; exact hb)).2, hndf, fun b hb => ?_⟩
  obtain ⟨q1, q2, q3⟩ := hfr b hb
  refine ⟨q1, ?_, fun l hl => ?_⟩
  · rintro (hs | hs)
    · have := (h.sB b hs).1; omega
    · exact q2 hs.1
  · by_cases hm : l ∈ ρ
    · obtain ⟨j, hj, rfl⟩ := List.getElem_of_mem hm
      rw [fp2in j hj] at hl
      exact q3 _ (by omega) hl
    · rw [fp2out l hm] at hl
      have := (h.fpB l b hl).1; omega

theorem callM_sound {f : FuncId} {d : Nat} {ρ : List Nat} {io : List Blk} {args xs : List AV} {k : AV → Mem → Prop} (hnd : ρ.Nodup) (hio : io.length = ρ.length)
    (hlk : ∀ j (h : j < ρ.length) (h' : j < io.length), lookB m ρ[j] = some io[j] ∧ labFree io[j]) {vs : Array Value} (h : RS B N φ fp S ts m a w) (hvl : vs.size = args.length)
    (hx : ∀ i (h : i < args.length), RV w S (φio φ ρ) args[i] (vs.toList.getD i Go.undef) ∧ ∀ l ver, (l, ver) ∈ labs args[i] → known (ioM 0 io) l ver) {post : AV → List Blk → Prop} (hf : FnM P f io args post)
    (hk : ∀ r io', post r io' → sMat (1000 * (d + 1)) r (putIo ρ io' m) k) :
    Calls P f vs w fun e w' => ∃ v, e = .returned v ∧ Gives B N a (fun x ts' m' => ts' = ts ∧ k x m') v w' := by
  refine (callM_core hnd hio hlk h hvl hx hf (xs := xs)).mono ?_
  rintro e w' ⟨v, r, io', fp2, T, fs, rfl, hpost, hRS, _, _, hown, _, hndf, hfr⟩
  obtain ⟨φ3, fp3, y, m3, g1, g2, g3, g4⟩ := mat_out hRS hown hndf (fun b hb => ⟨Nat.le_trans h.size (hfr b hb).1, (hfr b hb).2.1, (hfr b hb).2.2⟩) _ (hk r io' hpost)
  exact ⟨v, rfl, φ3, fp3, T, ts, m3, y, g1.rs, g3, g4, rfl, g2⟩

/-- A call with blocks of ours: ρ lists their labels. -/
theorem sCallT_io {f : FuncId} {d : Nat} {xs ts : List AV} {m : Mem} {k : AV → Mem → Prop} (ρ : List Nat) (h : sSel m (fun io => sRens ρ (fun args => sCallM P f d ρ io args m k ⟨⟩) [] xs) [] ρ) {q : Pack k} : sCallT P f d xs ts m k q := by
  refine .inl fun B N φ fp S ts a w vs hRS hsz hx hxl => ?_
  obtain ⟨hnd, io, h1, h2, h3⟩ := sSel_out ρ [] h
  rw [List.reverse_nil, List.nil_append] at h1
  obtain ⟨args, g1, g2, g3⟩ := rens_out (w := w) (S := S) (φ := φ) h2 h3 xs vs.toList [] (by simpa using hsz) hx hxl h1
  rw [List.reverse_nil, List.nil_append] at g1
  obtain ⟨post, hf, hk⟩ := g1
  exact ⟨hf.1, callM_sound hnd h2 h3 hRS (hsz.trans g2.symm) g3 hf hk (xs := xs)⟩

/- ---- a row within a row, lent for one call -/
theorem lookB_fresh (m : Mem) (n : Nat) : ∃ l, n ≤ l ∧ lookB m l = none := by
  have key : ∀ (m : Mem) (l : Nat), (∀ p, p ∈ m → p.1 ≠ l) → lookB m l = none := by
    intro m l h
    induction m with
    | nil => rfl
    | cons p r ih =>
      obtain ⟨k, b⟩ := p
      rw [lookB_cons, if_neg (h (k, b) (List.mem_cons_self ..))]
      exact ih fun p hp => h p (List.mem_cons_of_mem _ hp)
  have big : ∀ (m : Mem), ∃ n, ∀ p, p ∈ m → p.1 < n := by
    intro m
    induction m with
    | nil => exact ⟨0, fun p hp => by cases hp⟩
    | cons p r ih =>
      obtain ⟨n, hn⟩ := ih
      refine ⟨max n (p.1 + 1), fun q hq => ?_⟩
      rcases List.mem_cons.1 hq with rfl | hq
      · omega
      · have := hn q hq; omega
  obtain ⟨n2, h2⟩ := big m
  exact ⟨max n n2, by omega, key m _ fun p hp => by have := h2 p hp; omega⟩

/-- A row within a row is given a label of its own. -/
theorem RS.split (h : RS B N φ fp S ts m a w) {l v i l2 : Nat} {xs ys : List AV} {sh2 : Sh} {u : Value} (hlk : lookB m l = some (.lent v xs i u)) (hx : xs[i]? = some (.arr sh2 ys)) (hl2 : ioL ≤ l2) (hl2n : lookB m l2 = none) :
    ∃ φ2 fp2 b, φ l = .at b ⟨1, false⟩ v ∧ (∀ l', l' ≠ l2 → φ2 l' = φ l') ∧ (∀ c, c ∈ fp2 l2 → c ∈ fp l) ∧ RS B N φ2 fp2 S ts ((l2, .row 0 sh2 true ys) :: (l, .row v ⟨1, false⟩ true (xs.set i (.val u))) :: m) a w ∧
      ((φ2 l2 = .nil 0 ∧ ys = [] ∧ ∃ a, u = .slice a 0 0) ∨
        ∃ b2 cap2 cs2 e2, φ2 l2 = .at b2 sh2 0 ∧ u = .slice (some ⟨b2, 0, none⟩) ys.length cap2 ∧ w.heap[b2]? = some (.cells cs2 e2 (0, 0)) ∧ cs2.size = cap2 * sh2.sz ∧ ys.length ≤ cap2 ∧ cap2 ≤ maxLen) := by
  obtain ⟨hi, hxi⟩ := List.getElem?_eq_some_iff.1 hx
  have hne : l2 ≠ l := fun e => by rw [e, hlk] at hl2n; cases hl2n
  obtain ⟨b, cap, cs, e, fr, hφ, hbm, hown, hheap, hi', hu⟩ := h.mSome l _ hlk
  rcases own_arr hown with ⟨h0, _⟩ | ⟨b', cap', cs', e', fss, q1, hfp, hheap', hc, hl, hm, hf, hs, hv⟩
  · rw [h0] at hi; exact absurd hi (Nat.not_lt_zero _)
  · simp only [Value.slice.injEq, Option.some.injEq, Addr.mk.injEq] at q1
    obtain ⟨⟨rfl, _⟩, _, rfl⟩ := q1
    rw [hheap] at hheap'
    simp only [Option.some.injEq, Obj.cells.injEq] at hheap'
    obtain ⟨rfl, rfl, rfl⟩ := hheap'
    have hvi := hv i hi
    rw [hxi, elemV_cell, Nat.mul_one, hu] at hvi
    have hlf : i < fss.length := by omega
    have huo : u.oneCell' = true := hvi.leaf_oneCell trivial
    have hset : (fss.set i []).set i (fss.getD i []) = fss := by
      rw [List.set_set]
      refine List.ext_getElem (by simp) fun j h1 h2 => ?_
      rw [List.getElem_set]
      split
      · rename_i e; subst e; rw [List.getD_eq_getElem?_getD, List.getElem?_eq_getElem hlf]; rfl
      · rfl
    have hperm : fss.flatten.Perm (fss.getD i [] ++ (fss.set i []).flatten) := by
      have := set_flatten_perm (fss.getD i []) (fss.set i []) i (by simpa using hlf) (by simp [List.getD_eq_getElem?_getD, hlf])
      rwa [hset] at this
    have hpm : (fp l).Perm (fss.getD i [] ++ (b :: (fss.set i []).flatten)) := by
      rw [hfp]
      exact (hperm.cons b).trans List.perm_middle.symm
    have hnod := hpm.nodup_iff.1 (h.nod l)
    have hnod := List.nodup_append.1 hnod
    have hin : ∀ c, c ∈ b :: (fss.set i []).flatten → c ∈ fp l := fun c hc => hpm.mem_iff.2 (List.mem_append_right _ hc)
    have hin2 : ∀ c, c ∈ fss.getD i [] → c ∈ fp l := fun c hc => hpm.mem_iff.2 (List.mem_append_left _ hc)
    have R1 : RS B N (upd φ l (φ l)) (upd fp l (b :: (fss.set i []).flatten)) S ts ((l, .row v ⟨1, false⟩ true (xs.set i (.val u))) :: m) a w := by
      refine h.next l (φ l) _ S _ (Nat.le_refl _) (SameOut.refl _) (Szs.refl _) (fun _ _ _ => rfl) (fun c hc => ⟨hc, rfl⟩) (fun c h1 h2 => absurd h1 h2) (fun l b sh ver cs e _ hb => ⟨cs, e, hb, rfl⟩)
        (fun _ _ _ _ => rfl) (fun ver _ => LS.le_refl _ _) ?_ ?_ (fun _ _ hk => by cases hk) hnod.2.1 ?_
      · rintro ver ⟨k', h1, h2⟩
        rw [hlk] at h1; cases h1; exact h2
      · refine .inr ⟨b, cap, by rw [upd_same]; exact hφ, List.mem_cons_self .., fun h => (by cases h), ?_⟩
        refine .arr ⟨1, false⟩ (xs.set i (.val u)) b cap cs e (fss.set i []) hheap hc (by simpa using hl) hm (fun j hj => ?_) (by simpa using hs) fun j hj => ?_
        · rw [List.getElem_set]
          split
          · exact ⟨rfl, rfl⟩
          · exact hf j (by simpa using hj)
        · have hj' : j < xs.length := by simpa using hj
          by_cases e : i = j
          · subst e
            have e1 : (fss.set i []).getD i [] = [] := by simp [List.getD_eq_getElem?_getD, hlf]
            rw [List.getElem_set_self, e1, elemV_cell, Nat.mul_one, hu]
            exact .rd _ _ (.val _ huo)
          · have e1 : (fss.set i []).getD j [] = fss.getD j [] := by simp [List.getD_eq_getElem?_getD, List.getElem?_set, e]
            rw [List.getElem_set_ne e, e1]; exact hv j hj'
      · intro c hc
        have := h.fpB l c (hin c hc)
        exact ⟨h.notS l c (hin c hc), fun l' hl' hc' => hl' (h.dis l' l c hc' (hin c hc)), this.1, this.2⟩
    have step2 : ∀ X, (∀ (w : World), BR w S (upd (upd φ l (φ l)) l2 X) l2 (fss.getD i []) (.row 0 sh2 true ys) → w = w → True) → BR w S (upd (upd φ l (φ l)) l2 X) l2 (fss.getD i []) (.row 0 sh2 true ys) →
        RS B N (upd (upd φ l (φ l)) l2 X) (upd (upd fp l (b :: (fss.set i []).flatten)) l2 (fss.getD i [])) S ts ((l2, .row 0 sh2 true ys) :: (l, .row v ⟨1, false⟩ true (xs.set i (.val u))) :: m) a w := by
      intro X _ hbr
      have hno : lookB ((l, Blk.row v ⟨1, false⟩ true (xs.set i (.val u))) :: m) l2 = none := by rw [lookB_cons, if_neg (Ne.symm hne)]; exact hl2n
      refine R1.next l2 X _ S _ (Nat.le_refl _) (SameOut.refl _) (Szs.refl _) (fun _ _ _ => rfl) (fun c hc => ⟨hc, rfl⟩) (fun c h1 h2 => absurd h1 h2) (fun l b sh ver cs e _ hb => ⟨cs, e, hb, rfl⟩)
        (fun _ _ _ _ => rfl) ?_ ?_ hbr (fun _ _ hk => by cases hk) hnod.1 ?_
      · rintro ver ⟨k', h1, _⟩; rw [hno] at h1; cases h1
      · rintro ver ⟨k', h1, _⟩; rw [hno] at h1; cases h1
      · intro c hc
        have := h.fpB l c (hin2 c hc)
        refine ⟨h.notS l c (hin2 c hc), fun l' hl' hc' => ?_, this.1, this.2.imp id fun ⟨l0, hh, _⟩ => ⟨l0, hh, hl2, .inr ?_⟩⟩
        by_cases e : l' = l
        · subst e
          rw [upd_same] at hc'
          exact hnod.2.2 c hc c hc' rfl
        · rw [upd_other _ _ _ _ e] at hc'
          exact e (h.dis l' l c hc' (hin2 c hc))
        cases hk0 : lookB B.m0 l2 with
        | none => rfl
        | some k0 =>
          obtain ⟨k1, h1, _⟩ := h.kn l2 k0.ver hl2 ⟨k0, hk0, Nat.le_refl _⟩
          rw [hl2n] at h1; cases h1
    have hsub : ∀ c, c ∈ upd (upd fp l (b :: (fss.set i []).flatten)) l2 (fss.getD i []) l2 → c ∈ fp l := fun c hc => by rw [upd_same] at hc; exact hin2 c hc
    have hφ2 : ∀ X l', l' ≠ l2 → upd (upd φ l (φ l)) l2 X l' = φ l' := by
      intro X l' hl'
      rw [upd_other _ _ _ _ hl']
      by_cases e : l' = l
      · subst e; rw [upd_same]
      · rw [upd_other _ _ _ _ e]
    rcases own_arr hvi with ⟨g1, g2, g3⟩ | ⟨b2, cap2, cs2, e2, fss2, g1, g2, g3, g4, g5, g6, g7, g8, g9⟩
    · refine ⟨_, _, b, hφ, hφ2 (.nil 0), hsub, step2 (.nil 0) (fun _ _ _ => trivial) ?_, .inl ⟨upd_same _ _ _, g1, g3⟩⟩
      exact .inl ⟨upd_same _ _ _, g1, g2⟩
    · refine ⟨_, _, b, hφ, hφ2 (.at b2 sh2 0), hsub, step2 (.at b2 sh2 0) (fun _ _ _ => trivial) ?_, .inr ⟨b2, cap2, cs2, e2, upd_same _ _ _, g1, g3, g4, g5, g6⟩⟩
      refine .inr ⟨b2, cap2, upd_same _ _ _, by rw [g2]; simp, fun h => (by cases h), ?_⟩
      rw [g1] at hvi; exact hvi

/-- The row goes back to where it lay. -/
theorem RS.join (h : RS B N φ fp S ts m a w) {l v i l2 : Nat} {xs ys ys' : List AV} {sh2 : Sh} {u : Value} (hlk : lookB m l = some (.lent v xs i u)) (hi : i < xs.length) (hl2n : lookB m l2 = none)
    {φ2 : Nat → LS} (hφ2 : ∀ l', l' ≠ l2 → φ2 l' = φ l') {b : Nat} (hφ : φ l = .at b ⟨1, false⟩ v)
    (hX : (φ2 l2 = .nil 0 ∧ ys = [] ∧ ∃ a, u = .slice a 0 0) ∨
        ∃ b2 cap2 cs2 e2, φ2 l2 = .at b2 sh2 0 ∧ u = .slice (some ⟨b2, 0, none⟩) ys.length cap2 ∧ w.heap[b2]? = some (.cells cs2 e2 (0, 0)) ∧ cs2.size = cap2 * sh2.sz ∧ ys.length ≤ cap2 ∧ cap2 ≤ maxLen)
    (hlen : ys'.length = ys.length) {w' : World} {fp2 fpC : Nat → List Nat} {T : Nat → Prop}
    (hC : RS B N φ2 fpC T ts ((l2, .row 0 sh2 true ys') :: (l2, .row 0 sh2 true ys) :: (l, .row v ⟨1, false⟩ true (xs.set i (.val u))) :: m) a w') (hz : Szs w w') (hold : ∀ c, c ∈ fpC l2 → w.heap.size ≤ c ∨ c ∈ fp2 l2) (hold2 : ∀ c, c ∈ fp2 l2 → c ∈ fp l) :
    ∃ fp4, RS B N φ fp4 T ts ((l, .row v ⟨1, false⟩ true (xs.set i (.arr sh2 ys'))) :: m) a w' := by
  have hne : l2 ≠ l := fun e => by rw [e, hlk] at hl2n; cases hl2n
  have hφl2 : φ l2 = .dead := (h.mNone l2 hl2n).1
  have hBl := hC.mSome l (.row v ⟨1, false⟩ true (xs.set i (.val u))) (by rw [lookB_cons, if_neg hne, lookB_cons, if_neg hne, lookB_cons, if_pos rfl])
  have hBl2 := hC.mSome l2 (.row 0 sh2 true ys') (by rw [lookB_cons, if_pos rfl])
  rcases hBl with ⟨g1, _⟩ | ⟨b', cap, g1, g2, _, g4⟩
  · rw [hφ2 l (Ne.symm hne), hφ] at g1; cases g1
  · rw [hφ2 l (Ne.symm hne), hφ] at g1
    simp only [LS.at.injEq] at g1
    obtain ⟨rfl, _, _⟩ := g1
    rcases own_arr g4 with ⟨h0, _⟩ | ⟨b', cap', cs', e', fss, q1, hfp, hheap', hc, hl, hm, hf, hs, hv⟩
    · have := congrArg List.length h0
      simp at this
      rw [this] at hi; exact absurd hi (Nat.not_lt_zero _)
    · simp only [Value.slice.injEq, Option.some.injEq, Addr.mk.injEq] at q1
      obtain ⟨⟨rfl, _⟩, _, rfl⟩ := q1
      have hls : (xs.set i (.val u)).length = xs.length := List.length_set ..
      have hlf : i < fss.length := by omega
      have hvi := hv i (by omega)
      rw [List.getElem_set_self, elemV_cell, Nat.mul_one] at hvi
      obtain ⟨hu, hfe, huo⟩ := own_val hvi
      have hO2 : Own w' (fun _ => False) (.arr sh2 ys') u (fpC l2) := by
        rcases hBl2 with ⟨p1, p2, p3⟩ | ⟨b3, cap3, p1, p2, _, p4⟩
        · rcases hX with ⟨x1, x2, aa, x3⟩ | ⟨b2, cap2, cs2, e2, x1, _⟩
          · rw [p2, p3, x3]; exact .rd _ _ (.nil _ _)
          · rw [x1] at p1; cases p1
        · rcases hX with ⟨x1, x2, aa, x3⟩ | ⟨b2, cap2, cs2, e2, x1, x2, x3, x4, x5, x6⟩
          · rw [x1] at p1; cases p1
          · rw [x1] at p1
            simp only [LS.at.injEq] at p1
            obtain ⟨rfl, _, _⟩ := p1
            rcases own_arr p4 with ⟨r0, r1, _⟩ | ⟨b4, cap4, cs4, e4, fss4, r1, r2, r3, r4, r5, r6, r7, r8, r9⟩
            · rw [r1] at p2; cases p2
            · simp only [Value.slice.injEq, Option.some.injEq, Addr.mk.injEq] at r1
              obtain ⟨⟨rfl, _⟩, _, rfl⟩ := r1
              obtain ⟨cs5, e5, y1, y2⟩ := hz _ _ _ x3
              rw [r3] at y1
              simp only [Option.some.injEq, Obj.cells.injEq] at y1
              obtain ⟨rfl, rfl, _⟩ := y1
              rw [x2, ← hlen, r2]
              exact .arr sh2 ys' _ cap2 cs4 e4 fss4 r3 (y2.trans x4) (by omega) x6 r7 r8 r9
      have hperm := set_flatten_perm (fpC l2) fss i hlf hfe
      have hpm : (b :: (fss.set i (fpC l2)).flatten).Perm (fpC l2 ++ fpC l) := by
        rw [hfp]
        exact (hperm.cons b).trans List.perm_middle.symm
      have hmem : ∀ c, c ∈ b :: (fss.set i (fpC l2)).flatten → c ∈ fpC l2 ∨ c ∈ fpC l := fun c hc => List.mem_append.1 (hpm.mem_iff.1 hc)
      have hlook : ∀ l', l' ≠ l → l' ≠ l2 → lookB ((l2, Blk.row 0 sh2 true ys') :: (l2, .row 0 sh2 true ys) :: (l, .row v ⟨1, false⟩ true (xs.set i (.val u))) :: m) l' = lookB m l' := by
        intro l' h1 h2
        rw [lookB_cons, if_neg (Ne.symm h2), lookB_cons, if_neg (Ne.symm h2), lookB_cons, if_neg (Ne.symm h1)]
      have hn2 : ∀ l' k', lookB m l' = some k' → l' ≠ l2 := fun l' k' hk e => by rw [e, hl2n] at hk; cases hk
      have hkn : ∀ l' ver, known m l' ver → known ((l, .row v ⟨1, false⟩ true (xs.set i (.arr sh2 ys'))) :: m) l' ver := by
        rintro l' ver ⟨k', h1, h2⟩
        by_cases e : l = l'
        · subst e
          rw [hlk] at h1; cases h1
          exact ⟨.row v ⟨1, false⟩ true (xs.set i (.arr sh2 ys')), by rw [lookB_cons, if_pos rfl], h2⟩
        · exact ⟨k', by rw [lookB_cons, if_neg e]; exact h1, h2⟩
      have hφle : ∀ l' ver, LS.le (φ l') (φ2 l') ver := by
        intro l' ver
        by_cases e : l' = l2
        · subst e; rw [hφl2]; exact LS.le_dead _ _
        · rw [hφ2 l' e]; exact LS.le_refl _ _
      have hz0 : Sized φ2 w' w' := fun l b sh ver cs e _ hb => ⟨cs, e, hb, rfl⟩
      refine ⟨fun l' => if l' = l then b :: (fss.set i (fpC l2)).flatten else if l' = l2 then [] else fpC l', ?_⟩
      refine { tm := fun t => (hC.tm t).mono (fun _ _ => rfl) (fun _ h => h) hz0 fun l' ver _ => hφle l' ver, tl := fun t l' ver hl' => hkn l' ver (h.tl t l' ver hl'), mNone := fun l' hl' => ?_, mSome := fun l' k' hk' => ?_,
               bl := fun l' v' xs' hb' l'' ver hl'' => ?_, nod := fun l' => ?_, dis := fun l1 l3 c h1 h2 => ?_, notS := fun l' c hc' => ?_, fpB := fun l' c hc' => ?_, sB := hC.sB, base := hC.base, out := hC.out, szs := hC.szs,
               kn := fun l' ver hl' hk' => hkn l' ver (h.kn l' ver hl' hk'), fix := h.fix, size := hC.size, defers := hC.defers, tsz := hC.tsz, kon := hC.kon }
      · rw [lookB_cons] at hl'
        split at hl'
        · cases hl'
        · rename_i e
          rw [if_neg (Ne.symm e)]
          refine ⟨(h.mNone l' hl').1, ?_⟩
          split
          · rfl
          · rename_i e2
            exact (hC.mNone l' (by rw [hlook l' (Ne.symm e) e2]; exact hl')).2
      · rw [lookB_cons] at hk'
        split at hk'
        · rename_i e; subst e; cases hk'
          rw [if_pos rfl]
          refine .inr ⟨b, cap, hφ, List.mem_cons_self .., fun h => (by cases h), ?_⟩
          refine .arr ⟨1, false⟩ (xs.set i (.arr sh2 ys')) b cap cs' e' (fss.set i (fpC l2)) hheap' hc (by simpa using hl) hm (fun j hj => ?_) (by simpa using hs) fun j hj => ?_
          · rw [List.getElem_set]
            split
            · exact ⟨rfl, rfl⟩
            · rename_i ej
              have := hf j (by simpa using hj)
              rwa [List.getElem_set_ne ej] at this
          · have hj' : j < xs.length := by simpa using hj
            by_cases ej : i = j
            · subst ej
              have e1 : (fss.set i (fpC l2)).getD i [] = fpC l2 := by simp [List.getD_eq_getElem?_getD, hlf]
              rw [List.getElem_set_self, e1, elemV_cell, Nat.mul_one, hu]; exact hO2
            · have e1 : (fss.set i (fpC l2)).getD j [] = fss.getD j [] := by simp [List.getD_eq_getElem?_getD, List.getElem?_set, ej]
              rw [List.getElem_set_ne ej, e1]
              have := hv j (by simpa using hj)
              rwa [List.getElem_set_ne ej] at this
        · rename_i e
          have e2 := hn2 l' k' hk'
          rw [if_neg (Ne.symm e), if_neg e2]
          refine (hC.mSome l' k' (by rw [hlook l' (Ne.symm e) e2]; exact hk')).mono (fun _ _ => rfl) (fun _ h => h) hz0 (fun _ _ => rfl) (hφ2 l' e2).symm fun _ _ _ l'' ver _ => hφle l'' ver
      · rw [lookB_cons] at hb'
        split at hb'
        · cases hb'
        · exact hkn l'' ver (h.bl l' v' xs' hb' l'' ver hl'')
      · split
        · refine hpm.nodup_iff.2 (List.nodup_append.2 ⟨hC.nod l2, hC.nod l, fun c h1 c' h2 e => ?_⟩)
          subst e
          exact hne (hC.dis l2 l c h1 h2)
        · split
          · exact List.nodup_nil
          · exact hC.nod l'
      · have cl : ∀ l', l' ≠ l → l' ≠ l2 → c ∈ b :: (fss.set i (fpC l2)).flatten → c ∈ fpC l' → False := by
          intro l' n1 n2 hc1 hc2
          rcases hmem c hc1 with hh | hh
          · exact n2 (hC.dis l' l2 c hc2 hh)
          · exact n1 (hC.dis l' l c hc2 hh)
        split at h1
        · rename_i e1
          split at h2
          · rename_i e2; rw [e1, e2]
          · rename_i e2
            split at h2
            · cases h2
            · rename_i e3; exact (cl l3 e2 e3 h1 h2).elim
        · rename_i e1
          split at h1
          · cases h1
          · rename_i e1'
            split at h2
            · exact (cl l1 e1 e1' h2 h1).elim
            · split at h2
              · cases h2
              · exact hC.dis l1 l3 c h1 h2
      · split at hc'
        · rcases hmem c hc' with hh | hh
          · exact hC.notS _ c hh
          · exact hC.notS _ c hh
        · split at hc'
          · cases hc'
          · exact hC.notS _ c hc'
      · split at hc'
        · rename_i e; subst e
          rcases hmem c hc' with hh | hh
          · have := hC.fpB _ c hh
            refine ⟨this.1, ?_⟩
            rcases hold c hh with h1 | h1
            · exact .inl (Nat.le_trans h.size h1)
            · exact (h.fpB _ c (hold2 c h1)).2
          · exact hC.fpB _ c hh
        · split at hc'
          · cases hc'
          · exact hC.fpB _ c hc'

/-- A call whose first argument is a row within a caller's row. -/
theorem sCallT_in {f : FuncId} {d : Nat} {u : Value} {rest ts : List AV} {m : Mem} {k : AV → Mem → Prop} (l : Nat) {v i : Nat} {xs ys ys' : List AV} {sh2 : Sh} {r : Value} {n : Nat} {q : Pack k}
    (hlk : lookB m l = some (.lent v xs i u)) (hx : xs[i]? = some (.arr sh2 ys)) (hr : labsL rest = [])
    (hf : FnM P f [.row 0 sh2 true ys] (.ref 1000000000 0 0 n :: rest) (fun x io' => x = .val r ∧ io' = [.row 0 sh2 true ys'])) (hn : ys.length = n) (hlen : ys'.length = ys.length)
    (hk : k (.val r) ((l, .row v ⟨1, false⟩ true (xs.set i (.arr sh2 ys'))) :: m)) : sCallT P f d (.val u :: rest) ts m k q := by
  subst hn
  refine .inl fun B N φ fp S ts a w vs hRS hsz hxv hxl => ⟨hf.1, ?_⟩
  obtain ⟨l2, hl2, hl2n⟩ := lookB_fresh m ioL
  obtain ⟨φ2, fp2, b, hφ, hφ2, hsub, hR2, hX⟩ := hRS.split hlk hx hl2 hl2n
  have hu : vs.toList.getD 0 Go.undef = u ∧ u.oneCell' = true := by
    have := rv_val (hxv 0 (by simp))
    exact ⟨this.1.symm, by rw [this.1]; exact this.2⟩
  refine (callM_core (ρ := [l2]) (io := [.row 0 sh2 true ys]) (args := .ref 1000000000 0 0 ys.length :: rest) (xs := []) (by simp) rfl ?_ hR2 (by simpa using hsz) ?_ hf).mono ?_
  · intro j hj _
    have : j = 0 := by simpa using hj
    subst this
    exact ⟨by simp [lookB_cons], trivial⟩
  · intro j hj
    cases j with
    | zero =>
      refine ⟨?_, ?_⟩
      · show RV w S (φio φ2 [l2]) (.ref 1000000000 0 0 ys.length) (vs.toList.getD 0 Go.undef)
        rw [hu.1]
        have e : φio φ2 [l2] 1000000000 = φ2 l2 := φio_at φ2 (ρ := [l2]) (j := 0) (by simp)
        refine .ref _ _ _ _ _ (fun b' sh hb => ?_) (fun hb => ?_) hu.2
        · rw [e] at hb
          rcases hX with ⟨x1, _⟩ | ⟨b2, cap2, cs2, e2, x1, x2, x3, x4, x5, x6⟩
          · rw [x1] at hb; cases hb
          · rw [x1] at hb
            simp only [LS.at.injEq] at hb
            obtain ⟨rfl, rfl, _⟩ := hb
            exact ⟨_, cap2, x2, x5, .inr ⟨by simp, cs2, e2, x3, by simpa using x4⟩⟩
        · rw [e] at hb
          rcases hX with ⟨x1, x2, aa, x3⟩ | ⟨b2, cap2, cs2, e2, x1, _⟩
          · exact ⟨by rw [x2]; rfl, aa, x3⟩
          · rw [x1] at hb; cases hb
      · intro l' ver hl'
        simp only [List.getElem_cons_zero, labs, List.mem_singleton, Prod.mk.injEq] at hl'
        obtain ⟨rfl, rfl⟩ := hl'
        exact ⟨_, rfl, Nat.le_refl _⟩
    | succ j =>
      have hj' : j < rest.length := by simpa using hj
      have hn : labs rest[j] = [] := labs_nil_get hr j hj'
      have := hxv (j + 1) (by simpa using hj)
      simp only [List.getElem_cons_succ] at this ⊢
      exact ⟨.rd _ _ (rd_of_rv this hn), fun l' ver hl' => by rw [hn] at hl'; cases hl'⟩
  · rintro e w' ⟨v', r', io', fpC, T, fs, rfl, ⟨rfl, rfl⟩, hC, hz, _, hown, hold, _⟩
    obtain ⟨hv, _, ho⟩ := own_val hown
    subst hv
    obtain ⟨hi, _⟩ := List.getElem?_eq_some_iff.1 hx
    have hC' : RS B N φ2 fpC T ts ((l2, .row 0 sh2 true ys') :: (l2, .row 0 sh2 true ys) :: (l, .row v ⟨1, false⟩ true (xs.set i (.val u))) :: m) a w' := hC
    obtain ⟨fp4, hJ⟩ := hRS.join hlk hi hl2n hφ2 hφ hX hlen hC' hz (fun c hc => hold 0 (by simp) c hc) hsub
    exact ⟨_, rfl, φ, fp4, T, ts, _, .val _, hJ, .rd _ _ (.val _ ho), fun l' ver hl' => (by cases hl'), rfl, hk⟩

end
end Go.Vc
