/-
  Regions that draw their order: one run in the order of the text stands for all of them.
-/
import Derived.Test.YtlelhmbhhnokoaaDoorVcDet
import Derived.Test.YtlelhmbhhnokoaaDoorVcIo
set_option linter.unusedVariables false
set_option linter.unusedSimpArgs false
set_option linter.unnecessarySimpa false
namespace Go.Vc

/- ---- calls with one answer -/
def sCallMX (P : Program) (f : FuncId) (d : Nat) (ρ : List Nat) (io : List Blk) (args : List AV) (m : Mem) (k : AV → Mem → Prop) (_ : Pack k) : Prop :=
  ∃ r io1, FnM P f io args (fun x io' => x = r ∧ io' = io1) ∧ sMat (1000 * (d + 1)) r (putIo ρ io1 m) k
@[congr] theorem sCallMX_congr {P : Program} {f : FuncId} {d : Nat} {ρ : List Nat} {io io' : List Blk} {args args' : List AV} {m : Mem} {k : AV → Mem → Prop} {q : Pack k} (h : io = io') (h' : args = args') : sCallMX P f d ρ io args m k q = sCallMX P f d ρ io' args' m k q := by rw [h, h']
theorem sCallMX_one {P : Program} {f : FuncId} {d : Nat} {ρ : List Nat} {io io1 : List Blk} {args : List AV} {m : Mem} {k : AV → Mem → Prop} {r : AV} (h : FnM P f io args (fun x io' => x = r ∧ io' = io1)) (hk : sMat (1000 * (d + 1)) r (putIo ρ io1 m) k) {q : Pack k} : sCallMX P f d ρ io args m k q :=
  ⟨r, io1, h, hk⟩
def sCallX (P : Program) (f : FuncId) (d : Nat) (xs ts : List AV) (m : Mem) (k : AV → Mem → Prop) (_ : Pack k) : Prop := (∃ own r, Fn P f ts own (· = r) ∧ (own = false → noLabs xs) ∧ sRes own d m r k) ∨
  ∃ ρ, (∀ l, l ∈ ρ → ∃ x, x ∈ xs ∧ NL x l) ∧ sSel m (fun io => sRens ρ (fun args => sCallMX P f d ρ io args m k ⟨⟩) [] xs) [] ρ
@[congr] theorem sCallX_congr {P : Program} {f : FuncId} {d : Nat} {xs ts ts' : List AV} {m : Mem} {k : AV → Mem → Prop} {q : Pack k} (h : ts = ts') : sCallX P f d xs ts m k q = sCallX P f d xs ts' m k q := by rw [h]
theorem sCallX_one {P : Program} {f : FuncId} {d : Nat} {xs ts : List AV} {m : Mem} {k : AV → Mem → Prop} {r : AV} (h : Fn P f ts true (· = r)) (hk : sMat (1000 * (d + 1)) r m k) {q : Pack k} : sCallX P f d xs ts m k q :=
  .inl ⟨true, r, h, fun h => (by cases h), hk⟩
theorem sCallXS_one {P : Program} {f : FuncId} {d : Nat} {xs ts : List AV} {m : Mem} {k : AV → Mem → Prop} {r : AV} (h : Fn P f ts false (· = r)) (hl : noLabs xs) (hk : k r m) {q : Pack k} : sCallX P f d xs ts m k q :=
  .inl ⟨false, r, h, fun _ => hl, hk⟩
theorem sCallX_io {P : Program} {f : FuncId} {d : Nat} {xs ts : List AV} {m : Mem} {k : AV → Mem → Prop} {q : Pack k} (ρ : List Nat) (hρ : (ρ.all fun l => (labsL xs).any fun p => p.1 == l) = true) (h : sSel m (fun io => sRens ρ (fun args => sCallMX P f d ρ io args m k ⟨⟩) [] xs) [] ρ) : sCallX P f d xs ts m k q := by
  refine .inr ⟨ρ, fun l hl => ?_, h⟩
  rw [List.all_eq_true] at hρ
  obtain ⟨p, hp, he⟩ := List.any_eq_true.1 (hρ l hl)
  obtain ⟨i, hi, hpi⟩ := of_mem_labsL hp
  rw [beq_iff_eq] at he
  subst he
  exact ⟨xs[i], List.getElem_mem hi, p.2, hpi⟩
def sCallD (P : Program) (f : FuncId) (d : Nat) (xs : List AV) (m : Mem) (k : AV → Mem → Prop) : Prop := sTrees m (fun ts => sCallX P f d xs ts m k ⟨⟩) [] xs
@[congr] theorem sCallD_congr {P : Program} {f : FuncId} {d : Nat} {xs xs' : List AV} {m : Mem} {k : AV → Mem → Prop} (h : xs = xs') : sCallD P f d xs m k = sCallD P f d xs' m k := by rw [h]
theorem sCallD_eq (P : Program) (f : FuncId) (d : Nat) (x : AV) (xs : List AV) (m : Mem) (k : AV → Mem → Prop) : sCallD P f d (x :: xs) m k = sTrees m (fun ts => sCallX P f d (x :: xs) ts m k ⟨⟩) [] (x :: xs) := rfl
theorem sCallD_nil (P : Program) (f : FuncId) (d : Nat) (m : Mem) (k : AV → Mem → Prop) : sCallD P f d [] m k = sCallX P f d [] [] m k ⟨⟩ := rfl
theorem D1.leafT (m : Mem) (x : AV) : D1 (sLeafT m x) := by
  unfold sLeafT
  split <;> first
    | exact D1.pure _
    | exact D1.no
    | (unfold sRowT; split <;> first | exact D1.and _ (D1.and _ (D1.pure _)) | exact D1.no)
theorem D1.convX (P : Program) (si ti : TI) (m : Mem) (x : AV) : D1 (sConvX P si ti x m) := by
  unfold sConvX
  split
  · exact D1.bind (D1.ti _) fun ei => D1.isU8 _ (D1.bind (D1.leafT m x) fun y => D1.bytes y)
  · exact D1.chr _
  · exact D1.conv _ _
theorem like_convX {P : Program} {si ti : TI} {m m' : Mem} {x : AV} (h : Like (NL x) m m') : sConvX P si ti x m' = sConvX P si ti x m := by
  funext k
  unfold sConvX
  simp only [like_leafT h]
theorem D1.leavesT (m : Mem) : ∀ (xs acc : List AV), D1 fun k => sLeavesT m k acc xs
  | [], acc => D1.pure acc.reverse
  | x :: r, acc => D1.bind (H := fun y k => sLeavesT m k (y :: acc) r) (D1.leafT m x) fun y => D1.leavesT m r (y :: acc)
theorem D1.tree (m : Mem) (x : AV) : D1 (sTree m x) := by
  unfold sTree
  split
  · rename_i xs
    exact D1.bind (G := fun k => sLeavesT m k [] xs) (H := fun ys k => k (AV.agg ys)) (D1.leavesT m xs []) fun ys => D1.pure (AV.agg ys)
  · exact D1.pure _
  · exact D1.pure _
  · exact D1.leafT m _
theorem D1.trees (m : Mem) : ∀ (xs acc : List AV), D1 fun k => sTrees m k acc xs
  | [], acc => D1.pure acc.reverse
  | x :: r, acc => D1.bind (H := fun y k => sTrees m k (y :: acc) r) (D1.tree m x) fun y => D1.trees m r (y :: acc)

theorem DM.res (own : Bool) (d : Nat) (r : AV) (m : Mem) : DM (fun m k => sRes own d m r k) (fun _ => False) m := by
  cases own with
  | true => exact DM.mat _ r m
  | false => exact DM.ret r
theorem D1.sel1 {α : Type} (b : Option Blk) {G : Blk → (α → Prop) → Prop} (h : ∀ b, D1 (G b)) : D1 fun k => sSel1 b fun b => G b k := by
  unfold sSel1
  split <;> first | exact h _ | exact D1.and _ (h _) | exact D1.no
theorem D1.sel (m : Mem) : ∀ (ρ : List Nat) (acc : List Blk), D1 fun k => sSel m k acc ρ
  | [], acc => D1.pure acc.reverse
  | l :: r, acc => D1.and _ (D1.sel1 (lookB m l) (G := fun b k => sSel m k (b :: acc) r) fun b => D1.sel m r (b :: acc))
theorem like_sel {m m' : Mem} (k : List Blk → Prop) : ∀ (ρ : List Nat) (acc : List Blk), (∀ l, l ∈ ρ → lookB m' l = lookB m l) → sSel m' k acc ρ = sSel m k acc ρ
  | [], acc, _ => rfl
  | l :: r, acc, h => by
    rw [sSel_cons, sSel_cons, h l (List.mem_cons_self ..)]
    have : (fun b => sSel m' k (b :: acc) r) = fun b => sSel m k (b :: acc) r := funext fun b => like_sel k r (b :: acc) fun l' hl => h l' (List.mem_cons_of_mem _ hl)
    rw [this]
theorem D1.pos (l : Nat) : ∀ (ρ : List Nat) (i : Nat), D1 fun k => sPos l k i ρ
  | [], _ => D1.no
  | l0 :: r, i => by
    have h1 := D1.pos l r (i + 1)
    intro k hk
    have hk : sPos l k i (l0 :: r) := hk
    rw [sPos_cons] at hk
    split at hk
    · rename_i e
      exact ⟨i, hk, fun k' h' => by show sPos l k' i (l0 :: r); rw [sPos_cons, if_pos e]; exact h'⟩
    · rename_i e
      obtain ⟨x, h2, h3⟩ := h1 k hk
      exact ⟨x, h2, fun k' h' => by show sPos l k' i (l0 :: r); rw [sPos_cons, if_neg e]; exact h3 k' h'⟩
theorem D1.ren (ρ : List Nat) (x : AV) : D1 (sRen ρ x) := by
  unfold sRen
  split <;> first
    | exact D1.pure _
    | exact D1.no
    | exact D1.bind (H := fun j k => k _) (D1.pos _ ρ 0) fun j => D1.pure _
theorem D1.renL (ρ : List Nat) : ∀ (xs acc : List AV), D1 fun k => sRenL ρ k acc xs
  | [], acc => D1.pure acc.reverse
  | x :: r, acc => D1.bind (H := fun y k => sRenL ρ k (y :: acc) r) (D1.ren ρ x) fun y => D1.renL ρ r (y :: acc)
theorem D1.renA (ρ : List Nat) (x : AV) : D1 (sRenA ρ x) := by
  unfold sRenA
  split
  · rename_i xs
    exact D1.bind (G := fun k => sRenL ρ k [] xs) (H := fun ys k => k (AV.agg ys)) (D1.renL ρ xs []) fun ys => D1.pure (AV.agg ys)
  · exact D1.ren ρ _
theorem D1.rens (ρ : List Nat) : ∀ (xs acc : List AV), D1 fun k => sRens ρ k acc xs
  | [], acc => D1.pure acc.reverse
  | x :: r, acc => D1.bind (H := fun y k => sRens ρ k (y :: acc) r) (D1.renA ρ x) fun y => D1.rens ρ r (y :: acc)
theorem putIo_app : ∀ (ρ : List Nat) (io : List Blk) (m : Mem), putIo ρ io m = putIo ρ io [] ++ m
  | [], io, m => by cases io <;> rfl
  | _ :: _, [], m => rfl
  | l :: ρ, b :: io, m => by rw [putIo_cons, putIo_cons, putIo_app ρ io m, List.cons_append]
theorem DM.callX (P : Program) (f : FuncId) (d : Nat) (xs ts : List AV) (m : Mem) : DM (fun m k => sCallX P f d xs ts m k ⟨⟩) (fun l => ∃ x, x ∈ xs ∧ NL x l) m := by
  rintro k (⟨own, r, h1, h2, h3⟩ | ⟨ρ, hρ, h⟩)
  · obtain ⟨x, new, g1, g2⟩ := DM.res own d r m k h3
    exact ⟨x, new, g1, fun m' _ hm' k' hk' => .inl ⟨own, r, h1, h2, g2 m' (fun _ hl => hl.elim) hm' k' hk'⟩⟩
  obtain ⟨io, h1, h2⟩ := D1.sel m ρ [] _ h
  obtain ⟨args, h3, h4⟩ := D1.rens ρ xs [] _ h1
  obtain ⟨r, io1, hF, hm⟩ := h3
  obtain ⟨x, new, g1, g2⟩ := DM.mat _ r (putIo ρ io1 m) k hm
  refine ⟨x, new ++ putIo ρ io1 [], by rw [List.append_assoc, ← putIo_app]; exact g1, fun m' hm1 hm' k' hk' => .inr ⟨ρ, hρ, ?_⟩⟩
  rw [like_sel _ ρ [] fun l hl => hm1 l (hρ l hl)]
  refine h2 _ (h4 _ ⟨r, io1, hF, g2 (putIo ρ io1 m') (fun _ hl => hl.elim) (fun l hl => ?_) k' (by rw [putIo_app ρ io1 m', ← List.append_assoc]; exact hk')⟩)
  have hl : lookB new l ≠ none := hl
  rw [putIo_app ρ io1 m', putIo_app ρ io1 m, lookB_append, lookB_append]
  have := hm' l (by show lookB (new ++ putIo ρ io1 []) l ≠ none; rw [lookB_append]; split <;> simp_all)
  rw [this]
theorem DM.callD (P : Program) (f : FuncId) (d : Nat) (xs : List AV) (m : Mem) : DM (sCallD P f d xs) (fun l => ∃ x, x ∈ xs ∧ NL x l) m :=
  DM.pre (G := fun m k => sTrees m k [] xs) (F := fun ts m k => sCallX P f d xs ts m k ⟨⟩) (D1.trees m xs []) (fun m' hm => funext fun k => like_trees k xs [] fun x hx l hl => hm l ⟨x, hx, hl⟩) fun ts => DM.callX P f d xs ts m

theorem sBinS_mono {P : Program} {t : TypeId} {op : BinOp} {a b : AV} {k : AV → Prop} {r r' : Prop} (hr : r → r') (h : sBinS P t op a b k r) : sBinS P t op a b k r' := by
  unfold sBinS at h ⊢
  split at h
  · exact h
  · exact h
  · exact hr h
theorem D1.cellE (f : FK) (x y : AV) : D1 (sCellE f x y) := by
  unfold sCellE; split <;> first | exact D1.and _ (D1.pure _) | exact D1.pure _ | exact D1.no
theorem D1.aggE : ∀ (fs : List FK) (xs ys : List AV) (acc : Bool), D1 fun k => sAggE k acc fs xs ys
  | [], xs, ys, acc => by cases xs <;> cases ys <;> first | exact D1.pure _ | exact D1.no
  | f :: fs, xs, ys, acc => by
    cases xs with
    | nil => cases ys <;> exact D1.no
    | cons x xs =>
      cases ys with
      | nil => exact D1.no
      | cons y ys => exact D1.bind (D1.cellE f x y) fun b => D1.aggE fs xs ys _
theorem D1.eqR (op : BinOp) (c : Bool) : D1 (sEqR op c) := by
  unfold sEqR; split <;> first | exact D1.pure _ | exact D1.no
theorem D1.fk (o : Option (List FK)) : D1 (sFK o) := by
  cases o with
  | none => exact D1.no
  | some x => exact D1.pure x
theorem D1.binS (P : Program) (t : TypeId) (op : BinOp) (kd : TK) (a b : AV) : D1 fun k => sBinS P t op a b k (sBin op kd a b k) := by
  unfold sBinS
  split
  · exact D1.bind (D1.fk _) fun ks => D1.bind (D1.aggE ks _ _ true) fun c => D1.eqR op c
  · cases fnRes P t op with
    | none => exact D1.no
    | some c => exact D1.pure _
  · exact D1.bin _ _ _ _
/-- a call of a function value in a region that draws its order -/
def sCallDV (P : Program) (c : AV) (d : Nat) (xs : List AV) (m : Mem) (k : AV → Mem → Prop) : Prop := match c with
  | .clo f ys => sCallD P f d (xs ++ ys) m k
  | _ => False
@[congr] theorem sCallDV_congr {P : Program} {c c' : AV} {d : Nat} {xs xs' : List AV} {m : Mem} {k : AV → Mem → Prop} (h : c = c') (h' : xs = xs') : sCallDV P c d xs m k = sCallDV P c' d xs' m k := by rw [h, h']
theorem sCallDV_clo (P : Program) (f : FuncId) (ys : List AV) (d : Nat) (xs : List AV) (m : Mem) (k : AV → Mem → Prop) : sCallDV P (.clo f ys) d xs m k = sCallD P f d (xs ++ ys) m k := rfl
theorem DM.callDV (P : Program) (c : AV) (d : Nat) (xs : List AV) (m : Mem) : DM (sCallDV P c d xs) (fun l => (∃ x, x ∈ xs ∧ NL x l) ∨ NL c l) m := by
  cases c with
  | clo f ys =>
    refine (DM.callD P f d (xs ++ ys) m).mono fun l hl => ?_
    obtain ⟨x, hx, ver, hv⟩ := hl
    rcases List.mem_append.1 hx with hx | hx
    · exact .inl ⟨x, hx, ver, hv⟩
    · obtain ⟨i, hi, rfl⟩ := List.getElem_of_mem hx
      exact .inr ⟨ver, by simp only [labs]; exact mem_labsL hi hv⟩
  | _ => exact DM.no _ _
def sOpD (P : Program) (d : Nat) (op : Op) (ts : Env) (m : Mem) (k : AV → Mem → Prop) : Prop :=
  match op with
  | .call c => match c.callee, c.args.toList with
    | .value (.func f), xs => sCallD P f d (xs.map (ev ts)) m k
    | .value (.tmp t), xs => sCallDV P (look ts t) d (xs.map (ev ts)) m k
    | _, _ => sOp P d (.call c) ts m k
  | .binOp op t x y _ => sTI (tiOf P t) fun ti => sBinS P t op (ev ts x) (ev ts y) (fun v => k v m) (sBin op ti.kind (ev ts x) (ev ts y) fun v => k v m)
  | .load t x => sTI (tiOf P t) fun ti => sLoad ti.agg ti.size (ev ts x) m k
  | .store t p y => sTI (tiOf P t) fun ti => sStore ti.size (ev ts p) (ev ts y) m fun m' => k .undef m'
  | op => sOp P d op ts m k

theorem sPart_mono {ag : Bool} {n j : Nat} {x : AV} {k k' : AV → Prop} (h : ∀ y, k y → k' y) (hk : sPart ag n j x k) : sPart ag n j x k' := by
  obtain ⟨y, h1, h2⟩ := D1.part _ _ _ _ _ hk
  exact h2 _ (h y h1)
theorem sLoadX_of {ag : Bool} {n : Nat} {p : AV} {m : Mem} {k : AV → Mem → Prop} (h : sLoad ag n p m k) : sLoadX ag n p m k := by
  cases p with
  | ptr l ver i j =>
    have h0 : sLoadB ag n l ver i j (lookB m l) m k := h
    show if l < ioL then sLoadB ag n l ver i j (lookB m l) m k else sLoadI ag n l ver i j (lookB m l) m k
    split
    · exact h0
    · rename_i hl
      generalize lookB m l = b at h0
      unfold sLoadI
      split
      · obtain ⟨h1, h2⟩ := h0
        refine ⟨h1, ?_⟩
        rename_i xs
        cases hx : xs[i]? with
        | none => rw [hx] at h2; exact h2.elim
        | some x =>
          rw [hx] at h2
          rw [sOpt_some] at h2 ⊢
          refine sPart_mono (fun y hy => ?_) h2
          unfold sUndeep at hy
          unfold sLend
          split
          · rename_i hc; rw [if_pos hc] at hy; exact absurd hy.1 hl
          · rename_i hc; rw [if_neg hc] at hy; exact hy
      · exact h0
  | eptr => exact h
  | _ => exact h.elim
theorem sStoreX_of {n : Nat} {p y : AV} {m : Mem} {k : Mem → Prop} (h : sStore n p y m k) : sStoreX n p y m k := by
  unfold sStoreX
  split
  · rename_i l ver i j l2 v2 i2 n2
    have h : sStoreB l ver i j (lookB m l) (.ref l2 v2 i2 n2) m n k := h
    unfold sStoreR
    split
    · rename_i v xs hb
      rw [hb] at h
      have := h.2.1
      cases this
    · exact h
  · exact h
theorem sCall_of_D {P : Program} {f : FuncId} {d : Nat} {xs : List AV} {m : Mem} {k : AV → Mem → Prop} (h : sCallD P f d xs m k) : sCall P f d xs m k := by
  have key : ∀ (xs acc : List AV) (G G' : List AV → Prop), (∀ ts, G ts → G' ts) → sTrees m G acc xs → sTrees m G' acc xs := by
    intro xs acc G G' hg h
    obtain ⟨x, h1, h2⟩ := D1.trees m xs acc G h
    exact h2 G' (hg x h1)
  exact key _ _ _ _ (fun ts hx => by
    rcases hx with ⟨own, r, h1, h2, h3⟩ | ⟨ρ, _, h⟩
    · exact .inr ⟨own, _, h1, h2, fun _ e => e ▸ h3⟩
    · refine sCallT_io ρ ?_
      obtain ⟨io, h1, h2⟩ := D1.sel m ρ [] _ h
      obtain ⟨args, h3, h4⟩ := D1.rens ρ _ [] _ h1
      obtain ⟨r, io1, hF, hm⟩ := h3
      exact h2 _ (h4 _ ⟨_, hF, fun r io' ⟨e, e'⟩ => by subst e; subst e'; exact hm⟩)) h
theorem sCallV_of_D {P : Program} {c : AV} {d : Nat} {xs : List AV} {m : Mem} {k : AV → Mem → Prop} (h : sCallDV P c d xs m k) : sCallV P c d xs m k := by
  cases c with
  | clo f ys => exact sCall_of_D h
  | _ => exact h.elim
theorem sOp_of_D {P : Program} {d : Nat} {op : Op} {ts : Env} {m : Mem} {k : AV → Mem → Prop} (h : sOpD P d op ts m k) : sOp P d op ts m k := by
  unfold sOpD at h
  split at h
  · rename_i c
    split at h
    · rename_i f hc
      have := sCall_of_D h
      unfold sOp
      simp only [hc]
      exact this
    · rename_i t hc
      have := sCallV_of_D h
      unfold sOp
      simp only [hc]
      exact this
    · exact h
  · obtain ⟨ti, ht, h⟩ := sTI_out h
    show sTI _ _
    rw [ht]
    exact sBinS_mono (fun h => sBinN_of h) h
  · obtain ⟨ti, ht, h⟩ := sTI_out h
    show sTI _ _
    rw [ht]
    exact sLoadX_of h
  · obtain ⟨ti, ht, h⟩ := sTI_out h
    show sTI _ _
    rw [ht]
    exact sStoreX_of h
  · exact h

/-- the operands whose blocks an operation looks at -/
def rdO (op : Op) : List Operand := match op with
  | .move _ => []
  | .assign _ => []
  | .pick _ _ _ => []
  | .box _ _ => []
  | .build _ _ => []
  | .buildSlice _ _ _ => []
  | .binOp _ _ _ _ _ => []
  | .extract _ _ => []
  | .field _ _ _ => []
  | .store _ p _ => [p]
  | op => op.operands.toList
theorem rdO_sub {op : Op} {o : Operand} (h : o ∈ rdO op) : o ∈ op.operands.toList := by
  unfold rdO at h
  split at h <;> first
    | exact h
    | exact absurd h List.not_mem_nil
    | (rw [List.mem_singleton] at h; subst h; simp [Op.operands])
def Reads (op : Op) (ts : Env) (l : Nat) : Prop := ∃ o, o ∈ rdO op ∧ NL (ev ts o) l

theorem DM.sl {F : Mem → (AV → Mem → Prop) → Prop} {R : Nat → Prop} {m : Mem} (kd : TK) (h : DM F R m) : DM (fun m k => sSl kd (F m k)) R m := by
  cases kd <;> first | exact h | exact DM.no _ _
theorem DM.st {F : Mem → (AV → Mem → Prop) → Prop} {R : Nat → Prop} {m : Mem} (kd : TK) (h : DM F R m) : DM (fun m k => sSt kd (F m k)) R m := by
  cases kd <;> first | exact h | exact DM.no _ _
theorem DM.ti {F : TI → Mem → (AV → Mem → Prop) → Prop} {R : Nat → Prop} {m : Mem} (o : Option TI) (h : ∀ ti, DM (F ti) R m) : DM (fun m k => sTI o fun ti => F ti m k) R m := DM.pre' (D1.ti o) h

theorem sOpD_det (P : Program) (d : Nat) (op : Op) (ts : Env) (m : Mem) : DM (sOpD P d op ts) (Reads op ts) m := by
  have rd : ∀ (o : Operand), o ∈ rdO op → ∀ l, NL (ev ts o) l → Reads op ts l := fun o h l hl => ⟨o, h, hl⟩
  have lk : ∀ (o : Operand), o ∈ rdO op → ∀ m', Like (Reads op ts) m m' → Like (NL (ev ts o)) m m' := fun o h m' hm l hl => hm l (rd o h l hl)
  have nomem : ∀ {G : (AV → Prop) → Prop}, D1 G → DM (fun m k => G fun v => k v m) (Reads op ts) m := fun {G} h => DM.still (G := fun _ => G) h fun _ _ => rfl
  have other : (∀ c f, op = .call c → c.callee ≠ .value (.func f)) → (∀ c t, op = .call c → c.callee ≠ .value (.tmp t)) → (∀ o t x y t2, op ≠ .binOp o t x y t2) → (∀ t x, op ≠ .load t x) → (∀ t p y, op ≠ .store t p y) → DM (sOp P d op ts) (Reads op ts) m := by
    intro hno hnt hnb hnl hns
    cases op with
    | move x => exact DM.ret _
    | makeFunc fn first caps => cases fn <;> first | exact DM.and _ (DM.ret _) | exact DM.no _ _
    | assign x => exact DM.ret _
    | pick c a b => exact nomem (D1.pick _ _ _)
    | alloc t => exact DM.ti _ fun ti => DM.box d ti.zero m
    | box t x => exact DM.box d _ m
    | build t parts => exact DM.ti _ fun ti => DM.st _ (nomem (D1.build ti _))
    | buildSlice t n parts => exact DM.ti _ fun tt => DM.sl _ (DM.ti _ fun ti => DM.buildSlice ti d n _ m)
    | load t x => exact absurd rfl (hnl _ _)
    | store t p y => exact absurd rfl (hns _ _ _)
    | nilCheck x => exact DM.still (D1.nil m _) fun m' hm => like_nil (lk x (by simp [rdO, Op.operands]) m' hm)
    | binOp op t x y t2 => exact absurd rfl (hnb _ _ _ _ _)
    | unOp op t x => cases op <;> first | exact nomem (D1.not _) | exact nomem (D1.neg _) | exact DM.no _ _
    | convert s t x => exact DM.ti _ fun si => DM.ti _ fun ti => DM.still (G := fun m k => sConvX P si ti (ev ts x) m k) (D1.convX P si ti m _) fun m' hm => like_convX (lk x (by simp [rdO, Op.operands]) m' hm)
    | makeSlice t l c => exact DM.ti _ fun tt => DM.sl _ (DM.ti _ fun ti => DM.make ti d _ _ m)
    | fieldAddr t x f => exact DM.ti _ fun ti => DM.pre' (F := fun fd m k => 0 < fd.2.1 ∧ sField fd.1 m (ev ts x) fun v => k v m) (D1.fld _) fun fd => DM.and _ (DM.still (D1.field _ m _) fun m' hm => like_field _ (lk x (by simp [rdO, Op.operands]) m' hm))
    | field t x f => exact DM.ti _ fun ti => DM.pre' (F := fun fd m k => sPartA fd.2.2 fd.2.1 fd.1 (ev ts x) fun v => k v m) (D1.fld _) fun fd => nomem (D1.partA _ _ _ _)
    | indexAddr t x i => exact DM.ti _ fun tt => DM.sl _ (DM.ti _ fun ti => DM.still (G := fun m k => sIdx ti.sh m (ev ts x) (ev ts i) k) (D1.idx _ m _ _) fun m' hm => like_idx _ _ (lk x (by simp [rdO, Op.operands]) m' hm))
    | index t x i => exact DM.ti _ fun tt => DM.and _ (nomem (D1.index _ _))
    | extract x i => exact nomem (D1.tup _ _)
    | slice t x lo hi mx =>
      cases mx with
      | none => exact DM.ti _ fun tt => DM.still (G := fun m k => sSlK P tt (ev ts x) (lo.map (ev ts)) (hi.map (ev ts)) m k) (D1.slK _ _ _ _ _ m) fun m' hm => like_slK _ _ (lk x (by simp [rdO, Op.operands]) m' hm)
      | some mx =>
        cases lo with
        | none => exact DM.and _ (DM.ti _ fun tt => DM.sl _ (DM.ti _ fun _ => DM.still (G := fun m k => sSlice0 m (ev ts x) k) (D1.slice0 m _) fun m' hm => like_slice0 (lk x (by simp [rdO, Op.operands]) m' hm)))
        | some lo => exact DM.no _ _
    | call c =>
      obtain ⟨callee, args, tys⟩ := c
      have hin : ∀ o, o ∈ args.toList → o ∈ rdO (Op.call ⟨callee, args, tys⟩) := fun o ho => by show o ∈ (Op.call ⟨callee, args, tys⟩).operands.toList; simp only [Op.operands, Call.operands, Array.toList_append, List.mem_append]; exact .inr ho
      show DM (fun m k => match callee, args.toList with
        | .builtin .len, [x] => match tys.toList with | t :: _ => sTI (tiOf P t) fun ti => sLen ti.kind m (ev ts x) fun v => k v m | [] => False
        | .builtin .max, [x, y] => sMax (ev ts x) (ev ts y) fun v => k v m
        | .builtin .min, [x, y] => sMin (ev ts x) (ev ts y) fun v => k v m
        | .builtin .append, [x, y] => sAppT P tys.toList d (ev ts x) (ev ts y) m k
        | .value (.func f), xs => sCall P f d (xs.map (ev ts)) m k
        | .value (.tmp t), xs => sCallV P (look ts t) d (xs.map (ev ts)) m k
        | _, _ => False) (Reads (.call ⟨callee, args, tys⟩) ts) m
      generalize args.toList = l at hin
      split
      · rename_i x
        split
        · exact DM.ti _ fun ti => DM.still (G := fun m k => sLen ti.kind m (ev ts x) k) (D1.len _ m _) fun m' hm => like_len _ (lk x (hin x (by simp)) m' hm)
        · exact DM.no _ _
      · exact nomem (D1.max _ _)
      · exact nomem (D1.min _ _)
      · rename_i x y
        exact (DM.appT P _ d _ _ m).mono fun l hl => hl.elim (fun hl => ⟨x, hin x (by simp), hl⟩) fun hl => ⟨y, hin y (by simp), hl⟩
      · exact absurd rfl (hno _ _ rfl)
      · exact absurd rfl (hnt _ _ rfl)
      · exact DM.no _ _
    | _ => exact DM.no _ _
  cases op with
  | call c =>
    by_cases hf : ∃ f, c.callee = .value (.func f)
    · obtain ⟨f, hf⟩ := hf
      have : sOpD P d (.call c) ts = sCallD P f d (c.args.toList.map (ev ts)) := by
        funext m k
        simp only [sOpD, hf]
      rw [this]
      refine (DM.callD P f d _ m).mono fun l hl => ?_
      obtain ⟨x, hx, hl⟩ := hl
      obtain ⟨o, ho, rfl⟩ := List.mem_map.1 hx
      exact ⟨o, by show o ∈ (Op.call c).operands.toList; simp only [Op.operands, Call.operands, Array.toList_append, List.mem_append]; exact .inr ho, hl⟩
    · by_cases hft : ∃ t, c.callee = .value (.tmp t)
      · obtain ⟨t, hft⟩ := hft
        have : sOpD P d (.call c) ts = sCallDV P (look ts t) d (c.args.toList.map (ev ts)) := by
          funext m k
          simp only [sOpD, hft]
        rw [this]
        refine (DM.callDV P (look ts t) d _ m).mono fun l hl => ?_
        rcases hl with ⟨x, hx, hl⟩ | hl
        · obtain ⟨o, ho, rfl⟩ := List.mem_map.1 hx
          exact ⟨o, by show o ∈ (Op.call c).operands.toList; simp only [Op.operands, Call.operands, Array.toList_append, List.mem_append]; exact .inr ho, hl⟩
        · exact ⟨.tmp t, by show Operand.tmp t ∈ (Op.call c).operands.toList; simp [Op.operands, Call.operands, hft], hl⟩
      have : sOpD P d (.call c) ts = sOp P d (.call c) ts := by
        funext m k
        simp only [sOpD]
        split
        · rename_i f hc; exact absurd ⟨f, hc⟩ hf
        · rename_i f hc; exact absurd ⟨f, hc⟩ hft
        · rfl
      rw [this]
      exact other (fun c' f e hc => hf ⟨f, by injection e with e; rw [e]; exact hc⟩) (fun c' f e hc => hft ⟨f, by injection e with e; rw [e]; exact hc⟩) (fun _ _ _ _ _ e => (by cases e)) (fun _ _ e => (by cases e)) (fun _ _ _ e => (by cases e))
  | binOp op t x y t2 => exact DM.ti _ fun ti => nomem (G := fun k => sBinS P t op (ev ts x) (ev ts y) k (sBin op ti.kind (ev ts x) (ev ts y) k)) (D1.binS P t op ti.kind (ev ts x) (ev ts y))
  | load t x => exact DM.ti _ fun ti => (DM.load ti.agg ti.size (ev ts x) m).mono (rd x (by simp [rdO, Op.operands]))
  | store t p y => exact DM.ti _ fun ti => (DM.store ti.size (ev ts p) (ev ts y) m).mono (rd p (by simp [rdO, Op.operands]))
  | _ => exact other (fun _ _ e => (by cases e)) (fun _ _ e => (by cases e)) (fun _ _ _ _ _ e => (by cases e)) (fun _ _ e => (by cases e)) (fun _ _ _ e => (by cases e))

theorem sOpD_ts {P : Program} {d : Nat} {op : Op} {ts ts' : Env} (h : ∀ o, o ∈ op.operands.toList → ev ts' o = ev ts o) (m : Mem) (k : AV → Mem → Prop) : sOpD P d op ts' m k = sOpD P d op ts m k := by
  have parts : ∀ (ps : Array (Nat × Operand)), (∀ o, o ∈ (ps.toList.map (·.2)) → ev ts' o = ev ts o) → (ps.toList.map fun p => (p.1, ev ts' p.2)) = ps.toList.map fun p => (p.1, ev ts p.2) := by
    intro ps hp
    refine List.map_congr_left fun p hpp => ?_
    rw [hp p.2 (List.mem_map.2 ⟨p, hpp, rfl⟩)]
  have optm : ∀ (lo : Option Operand), (∀ o, o ∈ lo.toList → ev ts' o = ev ts o) → lo.map (ev ts') = lo.map (ev ts) := by
    intro lo hp
    cases lo with
    | none => rfl
    | some o => simp [hp o (by simp)]
  cases op with
  | call c =>
    obtain ⟨callee, args, tys⟩ := c
    have hin : ∀ o, o ∈ args.toList → ev ts' o = ev ts o := fun o ho => h o (by simp only [Op.operands, Call.operands, Array.toList_append, List.mem_append]; exact .inr ho)
    have hcl : ∀ t, callee = .value (.tmp t) → look ts' t = look ts t := fun t e => h (.tmp t) (by subst e; simp [Op.operands, Call.operands])
    simp only [sOpD, sOp]
    generalize args.toList = l at hin
    split
    · rename_i f xs
      rw [List.map_congr_left hin]
    · rw [List.map_congr_left hin, hcl _ rfl]
    · split <;> first
        | rfl
        | (rename_i hx; exact (hx _ rfl).elim)
        | simp only [hin _ (List.mem_cons_self ..), hin _ (List.mem_cons_of_mem _ (List.mem_cons_self ..))]
        | simp only [hin _ (List.mem_cons_self ..)]
        | rw [List.map_congr_left hin]
  | makeFunc fn first caps =>
    cases fn <;> first
      | rfl
      | (simp only [sOpD, sOp]; rw [List.map_congr_left (fun o ho => h o (by simp [Op.operands]; exact .inr (by simpa using ho)))])
  | build t ps => simp only [sOpD, sOp]; rw [parts ps fun o ho => h o (by simpa [Op.operands] using ho)]
  | buildSlice t n ps => simp only [sOpD, sOp]; rw [parts ps fun o ho => h o (by simpa [Op.operands] using ho)]
  | slice t x lo hi mx =>
    cases mx with
    | none => simp only [sOpD, sOp]; rw [h x (by simp [Op.operands]), optm lo fun o ho => h o (by simp only [Op.operands]; simp at ho ⊢; simp [ho]), optm hi fun o ho => h o (by simp only [Op.operands]; simp at ho ⊢; simp [ho])]
    | some mx =>
      cases lo with
      | none => simp only [sOpD, sOp]; rw [h x (by simp [Op.operands])]
      | some lo => rfl
  | unOp op t x => cases op <;> simp only [sOpD, sOp] <;> rw [h x (by simp [Op.operands])]
  | pick c x y => simp only [sOpD, sOp]; rw [h c (by simp [Op.operands]), h x (by simp [Op.operands]), h y (by simp [Op.operands])]
  | store t x y => simp only [sOpD, sOp]; rw [h x (by simp [Op.operands]), h y (by simp [Op.operands])]
  | binOp op t x y t2 => simp only [sOpD, sOp]; rw [h x (by simp [Op.operands]), h y (by simp [Op.operands])]
  | makeSlice t x y => simp only [sOpD, sOp]; rw [h x (by simp [Op.operands]), h y (by simp [Op.operands])]
  | indexAddr t x y => simp only [sOpD, sOp]; rw [h x (by simp [Op.operands]), h y (by simp [Op.operands])]
  | index t x y => simp only [sOpD, sOp]; rw [h x (by simp [Op.operands]), h y (by simp [Op.operands])]
  | move x => simp only [sOpD, sOp]; rw [h x (by simp [Op.operands])]
  | assign x => simp only [sOpD, sOp]; rw [h x (by simp [Op.operands])]
  | box t x => simp only [sOpD, sOp]; rw [h x (by simp [Op.operands])]
  | load t x => simp only [sOpD, sOp]; rw [h x (by simp [Op.operands])]
  | nilCheck x => simp only [sOpD, sOp]; rw [h x (by simp [Op.operands])]
  | convert s t x => simp only [sOpD, sOp]; rw [h x (by simp [Op.operands])]
  | fieldAddr t x f => simp only [sOpD, sOp]; rw [h x (by simp [Op.operands])]
  | field t x f => simp only [sOpD, sOp]; rw [h x (by simp [Op.operands])]
  | extract x i => simp only [sOpD, sOp]; rw [h x (by simp [Op.operands])]
  | _ => rfl

end Go.Vc
