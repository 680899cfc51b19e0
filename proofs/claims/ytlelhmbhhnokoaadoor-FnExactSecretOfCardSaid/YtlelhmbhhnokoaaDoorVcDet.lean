/-
  An operation has one outcome, and it hangs on nothing but its operands and the labels that they name: for the regions that draw their order.
-/
import Derived.Test.YtlelhmbhhnokoaaDoorVcLoop
set_option linter.unusedVariables false
set_option linter.unusedSimpArgs false
set_option linter.unnecessarySimpa false
namespace Go.Vc

/-- One value goes on. -/
def D1 {α : Type} (G : (α → Prop) → Prop) : Prop := ∀ k, G k → ∃ x, k x ∧ ∀ k', k' x → G k'
theorem D1.pure {α : Type} (x : α) : D1 fun k => k x := fun _ h => ⟨x, h, fun _ h => h⟩
theorem D1.no {α : Type} : D1 fun _ : α → Prop => False := fun _ h => h.elim
theorem D1.and {α : Type} {G : (α → Prop) → Prop} (p : Prop) (h : D1 G) : D1 fun k => p ∧ G k := fun k hk =>
  have ⟨x, h1, h2⟩ := h k hk.2
  ⟨x, h1, fun k' hk' => ⟨hk.1, h2 k' hk'⟩⟩
theorem D1.bind {α β : Type} {G : (α → Prop) → Prop} {H : α → (β → Prop) → Prop} (h : D1 G) (h' : ∀ x, D1 (H x)) : D1 fun k => G fun x => H x k := fun k hk =>
  have ⟨x, h1, h2⟩ := h _ hk
  have ⟨y, g1, g2⟩ := h' x k h1
  ⟨y, g1, fun k' hk' => h2 _ (g2 k' hk')⟩

theorem D1.opt (o : Option AV) : D1 (sOpt o) := by
  cases o with
  | none => exact D1.no
  | some x => exact D1.pure x
theorem D1.fld (o : Option (Nat × Nat × Bool)) : D1 (sFld o) := by
  cases o with
  | none => exact D1.no
  | some x => exact D1.pure x
theorem D1.ti (o : Option TI) : D1 (sTI o) := by
  cases o with
  | none => exact D1.no
  | some x => exact D1.pure x
theorem D1.ifs {α : Type} (c : Bool) (x y : α) : D1 fun k : α → Prop => (c = true → k x) ∧ (c = false → k y) := by
  intro k hk
  cases c with
  | true => exact ⟨x, hk.1 rfl, fun k' hk' => ⟨fun _ => hk', fun h => (by cases h)⟩⟩
  | false => exact ⟨y, hk.2 rfl, fun k' hk' => ⟨fun h => (by cases h), fun _ => hk'⟩⟩
theorem D1.pick (c a b : AV) : D1 (sPick c a b) := by
  unfold sPick; split
  · exact D1.ifs _ _ _
  · exact D1.no
theorem D1.wrap (i : IntKind) (n : Int) : D1 (sWrap i n) := by
  unfold sWrap; split
  · exact D1.and _ (D1.pure _)
  · exact D1.pure _
theorem D1.intBin (op : BinOp) (i : IntKind) (x y : Int) : D1 (intBin op i x y) := by
  unfold Go.Vc.intBin
  split <;> first
    | exact D1.wrap _ _
    | exact D1.pure _
    | exact D1.and _ (D1.wrap _ _)
    | exact D1.and _ (D1.pure _)
    | exact D1.no
theorem D1.strBin (op : BinOp) (x y : ByteArray) : D1 (strBin op x y) := by
  unfold Go.Vc.strBin
  split <;> first
    | exact D1.pure _
    | exact D1.and _ (D1.pure _)
    | exact D1.no
theorem D1.bin (op : BinOp) (kd : TK) (a b : AV) : D1 (sBin op kd a b) := by
  unfold sBin
  split
  · exact D1.and _ (D1.intBin _ _ _ _)
  · exact D1.strBin _ _ _
  · split <;> first | exact D1.pure _ | exact D1.no
  · exact D1.no
theorem D1.not (a : AV) : D1 (sNot a) := by
  unfold sNot; split <;> first | exact D1.pure _ | exact D1.no
theorem D1.neg (a : AV) : D1 (sNeg a) := by
  unfold sNeg; split <;> first | exact D1.wrap _ _ | exact D1.no
theorem D1.conv (d : TK) (a : AV) : D1 (sConv d a) := by
  unfold sConv; split <;> first | exact D1.wrap _ _ | exact D1.pure _ | exact D1.no
theorem D1.max (a b : AV) : D1 (sMax a b) := by
  unfold sMax; split <;> first | exact D1.pure _ | exact D1.no
theorem D1.min (a b : AV) : D1 (sMin a b) := by
  unfold sMin; split <;> first | exact D1.pure _ | exact D1.no
theorem D1.tup (i : Nat) (a : AV) : D1 (sTup i a) := by
  unfold sTup; split <;> first | exact D1.opt _ | exact D1.no
theorem D1.part (ag : Bool) (n j : Nat) (x : AV) : D1 (sPart ag n j x) := by
  unfold sPart
  split <;> first | exact D1.opt _ | exact D1.and _ (D1.pure _) | exact D1.no
theorem D1.partA (ag : Bool) (n j : Nat) (x : AV) : D1 (sPartA ag n j x) := by
  unfold sPartA; split <;> first | exact D1.part _ _ _ _ | exact D1.no
theorem D1.index (x i : AV) : D1 (sIndex x i) := by
  unfold sIndex; split <;> first | exact D1.and _ (D1.pure _) | exact D1.no
theorem D1.cells (x : AV) : D1 (sCells x) := by
  unfold sCells; split <;> first | exact D1.pure _ | exact D1.no
theorem D1.fill (fs : List (Nat × Nat × Bool)) : ∀ (ps : List (Nat × AV)) (cells : List AV), D1 fun k => sFill fs cells k ps
  | [], cells => D1.pure cells
  | (i, x) :: r, cells => D1.bind (H := fun (fd : Nat × Nat × Bool) k => sCells x fun ys => ys.length = fd.2.1 ∧ fd.1 + ys.length ≤ cells.length ∧ sFill fs (setL cells fd.1 ys) k r) (D1.fld _) fun fd =>
      D1.bind (H := fun (ys : List AV) k => ys.length = fd.2.1 ∧ fd.1 + ys.length ≤ cells.length ∧ sFill fs (setL cells fd.1 ys) k r) (D1.cells x) fun ys => D1.and _ (D1.and _ (D1.fill fs r _))
theorem D1.build (ti : TI) (ps : List (Nat × AV)) : D1 (sBuild ti ps) :=
  D1.bind (H := fun (zs : List AV) k => sFill ti.fields zs (fun cs => k (AV.agg cs)) ps) (D1.cells _) fun zs => D1.bind (G := fun k => sFill ti.fields zs k ps) (H := fun (cs : List AV) k => k (AV.agg cs)) (D1.fill _ _ _) fun cs => D1.pure (AV.agg cs)
theorem D1.fillR (sh : Sh) : ∀ (ps : List (Nat × AV)) (xs : List AV), D1 fun k => sFillR sh xs k ps
  | [], xs => D1.pure xs
  | (i, x) :: r, xs => D1.and _ (D1.and _ (D1.and _ (D1.fillR sh r _)))
theorem D1.live (v : Nat) (b : Option Blk) (x : AV) : D1 fun k : AV → Prop => sLive v b (k x) := by
  unfold sLive; split <;> first | exact D1.and _ (D1.pure _) | exact D1.no
theorem D1.nil (m : Mem) (x : AV) : D1 (sNil m x) := by
  unfold sNil; split <;> first | exact D1.live _ _ _ | exact D1.pure _ | exact D1.no
theorem D1.field (j : Nat) (m : Mem) (x : AV) : D1 (sField j m x) := by
  unfold sField; split <;> first | exact D1.live _ _ _ | exact D1.pure _ | exact D1.no
theorem D1.len (kd : TK) (m : Mem) (x : AV) : D1 (sLen kd m x) := by
  unfold sLen; split <;> first | exact D1.live _ _ _ | exact D1.pure _ | exact D1.no
theorem D1.rsh {α : Type} (sh : Sh) (v : Nat) (b : Option Blk) {G : (α → Prop) → Prop} (h : D1 G) : D1 fun k => sRSh sh v b (G k) := by
  unfold sRSh; split <;> first | exact D1.and _ (D1.and _ h) | exact D1.no
theorem D1.bnd (x : Option AV) (d : Int) : D1 (sBnd x d) := by
  unfold sBnd; split <;> first | exact D1.pure _ | exact D1.no
theorem D1.idx (sh : Sh) (m : Mem) (x i : AV) : D1 (sIdx sh m x i) := by
  unfold sIdx; split <;> first | exact D1.and _ (D1.and _ (D1.pure _)) | exact D1.rsh _ _ _ (D1.and _ (D1.pure _)) | exact D1.no
theorem D1.slice (sh : Sh) (x : AV) (lo hi : Option AV) (m : Mem) : D1 (sSlice sh x lo hi m) := by
  unfold sSlice
  split
  · exact D1.bind (D1.bnd _ _) fun l => D1.bind (D1.bnd _ _) fun h => D1.and _ (D1.pure _)
  · exact D1.bind (D1.bnd _ _) fun l => D1.bind (D1.bnd _ _) fun h => D1.and _ (D1.and _ (D1.pure _))
  · exact D1.rsh _ _ _ (D1.bind (D1.bnd _ _) fun l => D1.bind (D1.bnd _ _) fun h => D1.and _ (D1.pure _))
  · exact D1.no
theorem D1.slice0 (m : Mem) (x : AV) : D1 (sSlice0 m x) := by
  unfold sSlice0; split <;> first | exact D1.pure _ | exact D1.live _ _ _ | exact D1.and _ (D1.pure _)
theorem D1.bytesL : ∀ (xs : List AV) (acc : List UInt8), D1 fun k => sBytesL k acc xs
  | [], _ => D1.pure _
  | x :: r, acc => by
    cases x <;> try exact D1.no
    rename_i v
    cases v <;> try exact D1.no
    rename_i i z
    cases i <;> try exact D1.no
    exact D1.and _ (D1.bytesL r _)
theorem D1.bytes (y : AV) : D1 (sBytes y) := by
  unfold sBytes; split <;> first | exact D1.bytesL _ _ | exact D1.no
theorem D1.chr (y : AV) : D1 (sChr y) := by
  unfold sChr; split <;> first | exact D1.and _ (D1.pure _) | exact D1.no
theorem D1.isU8 {α : Type} (kd : TK) {G : (α → Prop) → Prop} (h : D1 G) : D1 fun k => Vc.isU8 kd (G k) := by
  unfold Vc.isU8; split <;> first | exact h | exact D1.no
theorem D1.slK (P : Program) (tt : TI) (x : AV) (lo hi : Option AV) (m : Mem) : D1 (sSlK P tt x lo hi m) := by
  unfold sSlK
  split
  · exact D1.and _ (D1.slice _ _ _ _ _)
  · exact D1.and _ (D1.bind (D1.ti _) fun ti => D1.slice _ _ _ _ _)
  · exact D1.no
theorem D1.srcB (sh : Sh) (v i n : Nat) (b : Option Blk) : D1 (sSrcB sh v i n b) := by
  unfold sSrcB; split <;> first | exact D1.and _ (D1.and _ (D1.and _ (D1.pure _))) | exact D1.no
theorem D1.src (sh : Sh) (y : AV) (m : Mem) : D1 (sSrc sh y m) := by
  unfold sSrc; split <;> first | exact D1.and _ (D1.pure _) | exact D1.srcB _ _ _ _ _

/- ---- what an operation reads of the memory -/
def NL (x : AV) (l : Nat) : Prop := ∃ ver, (l, ver) ∈ labs x
theorem NL.ref (l v i n : Nat) : NL (.ref l v i n) l := ⟨v, by simp [labs]⟩
theorem NL.ptr (l v i j : Nat) : NL (.ptr l v i j) l := ⟨v, by simp [labs]⟩
def Like (R : Nat → Prop) (m m' : Mem) : Prop := ∀ l, R l → lookB m' l = lookB m l

theorem like_nil {m m' : Mem} {x : AV} (h : Like (NL x) m m') : sNil m' x = sNil m x := by
  funext k
  unfold sNil
  split <;> first | rfl | exact congrArg (fun b => sLive _ b _) (h _ (NL.ptr _ _ _ _)) | rw [h _ (NL.ref _ _ _ _)]
theorem like_field {m m' : Mem} {x : AV} (j : Nat) (h : Like (NL x) m m') : sField j m' x = sField j m x := by
  funext k
  unfold sField
  split <;> first | rfl | exact congrArg (fun b => sLive _ b _) (h _ (NL.ptr _ _ _ _)) | rw [h _ (NL.ref _ _ _ _)]
theorem like_len {m m' : Mem} {x : AV} (kd : TK) (h : Like (NL x) m m') : sLen kd m' x = sLen kd m x := by
  funext k
  unfold sLen
  split <;> first | rfl | exact congrArg (fun b => sLive _ b _) (h _ (NL.ptr _ _ _ _)) | rw [h _ (NL.ref _ _ _ _)]
theorem like_idx {m m' : Mem} {x : AV} (sh : Sh) (i : AV) (h : Like (NL x) m m') : sIdx sh m' x i = sIdx sh m x i := by
  funext k
  unfold sIdx
  split <;> first | rfl | exact congrArg (fun b => sLive _ b _) (h _ (NL.ptr _ _ _ _)) | rw [h _ (NL.ref _ _ _ _)]
theorem like_slice {m m' : Mem} {x : AV} (sh : Sh) (lo hi : Option AV) (h : Like (NL x) m m') : sSlice sh x lo hi m' = sSlice sh x lo hi m := by
  funext k
  unfold sSlice
  split <;> first | rfl | exact congrArg (fun b => sLive _ b _) (h _ (NL.ptr _ _ _ _)) | rw [h _ (NL.ref _ _ _ _)]
theorem like_slice0 {m m' : Mem} {x : AV} (h : Like (NL x) m m') : sSlice0 m' x = sSlice0 m x := by
  funext k
  unfold sSlice0
  split <;> first | rfl | exact congrArg (fun b => sLive _ b _) (h _ (NL.ptr _ _ _ _)) | rw [h _ (NL.ref _ _ _ _)]
theorem like_slK {P : Program} {tt : TI} {m m' : Mem} {x : AV} (lo hi : Option AV) (h : Like (NL x) m m') : sSlK P tt x lo hi m' = sSlK P tt x lo hi m := by
  funext k
  unfold sSlK
  simp only [like_slice _ _ _ h]
theorem like_src {m m' : Mem} {x : AV} (sh : Sh) (h : Like (NL x) m m') : sSrc sh x m' = sSrc sh x m := by
  funext k
  unfold sSrc
  split <;> first | rfl | exact congrArg (fun b => sLive _ b _) (h _ (NL.ptr _ _ _ _)) | rw [h _ (NL.ref _ _ _ _)]
theorem like_leafT {m m' : Mem} {x : AV} (h : Like (NL x) m m') : sLeafT m' x = sLeafT m x := by
  funext k
  unfold sLeafT
  split <;> first | rfl | exact congrArg (fun b => sLive _ b _) (h _ (NL.ptr _ _ _ _)) | rw [h _ (NL.ref _ _ _ _)]
theorem like_leavesT {m m' : Mem} (k : List AV → Prop) : ∀ (xs acc : List AV), (∀ x, x ∈ xs → Like (NL x) m m') → sLeavesT m' k acc xs = sLeavesT m k acc xs
  | [], acc, _ => rfl
  | x :: r, acc, h => by
    simp only [sLeavesT]
    rw [like_leafT (h x (List.mem_cons_self ..))]
    congr 1
    funext y
    exact like_leavesT k r _ fun z hz => h z (List.mem_cons_of_mem _ hz)
theorem like_tree {m m' : Mem} {x : AV} (h : Like (NL x) m m') : sTree m' x = sTree m x := by
  funext k
  cases x with
  | agg xs =>
    simp only [sTree]
    refine like_leavesT _ xs [] fun y hy l hl => h l ?_
    obtain ⟨ver, hv⟩ := hl
    obtain ⟨i, hi, rfl⟩ := List.getElem_of_mem hy
    exact ⟨ver, by simp only [labs]; exact mem_labsL hi hv⟩
  | ref l v i n => simp only [sTree]; rw [like_leafT h]
  | _ => rfl
theorem like_trees {m m' : Mem} (k : List AV → Prop) : ∀ (xs acc : List AV), (∀ x, x ∈ xs → Like (NL x) m m') → sTrees m' k acc xs = sTrees m k acc xs
  | [], acc, _ => rfl
  | x :: r, acc, h => by
    simp only [sTrees]
    rw [like_tree (h x (List.mem_cons_self ..))]
    congr 1
    funext y
    exact like_trees k r _ fun z hz => h z (List.mem_cons_of_mem _ hz)

/- ---- one outcome: a value, and labels laid anew -/
theorem lookB_append (a b : Mem) (l : Nat) : lookB (a ++ b) l = match lookB a l with | some x => some x | none => lookB b l := by
  induction a with
  | nil => rfl
  | cons p r ih =>
    obtain ⟨k, v⟩ := p
    simp only [List.cons_append, lookB_cons]
    by_cases h : k = l
    · simp [h]
    · simp [h, ih]

def DM {α : Type} (F : Mem → (α → Mem → Prop) → Prop) (R : Nat → Prop) (m : Mem) : Prop :=
  ∀ k, F m k → ∃ x new, k x (new ++ m) ∧ ∀ m', Like R m m' → Like (fun l => lookB new l ≠ none) m m' → ∀ k', k' x (new ++ m') → F m' k'

theorem DM.still {α : Type} {R : Nat → Prop} {m : Mem} {G : Mem → (α → Prop) → Prop} (h : D1 (G m)) (hl : ∀ m', Like R m m' → G m' = G m) : DM (fun m k => G m fun v => k v m) R m := fun k hk =>
  have ⟨x, h1, h2⟩ := h _ hk
  ⟨x, [], h1, fun m' hm _ k' hk' => by show G m' _; rw [hl m' hm]; exact h2 _ hk'⟩
theorem DM.no {α : Type} (R : Nat → Prop) (m : Mem) : DM (fun _ (_ : α → Mem → Prop) => False) R m := fun _ h => h.elim
theorem DM.and {α : Type} {F : Mem → (α → Mem → Prop) → Prop} {R : Nat → Prop} {m : Mem} (p : Prop) (h : DM F R m) : DM (fun m k => p ∧ F m k) R m := fun k hk =>
  have ⟨x, new, h1, h2⟩ := h k hk.2
  ⟨x, new, h1, fun m' hm hm' k' hk' => ⟨hk.1, h2 m' hm hm' k' hk'⟩⟩
theorem DM.pre {α β : Type} {F : α → Mem → (β → Mem → Prop) → Prop} {G : Mem → (α → Prop) → Prop} {R : Nat → Prop} {m : Mem} (hg : D1 (G m)) (hl : ∀ m', Like R m m' → G m' = G m) (h : ∀ x, DM (F x) R m) :
    DM (fun m k => G m fun x => F x m k) R m := fun k hk =>
  have ⟨x, h1, h2⟩ := hg _ hk
  have ⟨y, new, g1, g2⟩ := h x k h1
  ⟨y, new, g1, fun m' hm hm' k' hk' => by show G m' _; rw [hl m' hm]; exact h2 _ (g2 m' hm hm' k' hk')⟩
theorem DM.pre' {α β : Type} {F : α → Mem → (β → Mem → Prop) → Prop} {G : (α → Prop) → Prop} {R : Nat → Prop} {m : Mem} (hg : D1 G) (h : ∀ x, DM (F x) R m) : DM (fun m k => G fun x => F x m k) R m :=
  DM.pre (G := fun _ => G) hg (fun _ _ => rfl) h
theorem DM.bind {α β : Type} {one : Mem → (α → Mem → Prop) → Prop} {rest : α → Mem → (β → Mem → Prop) → Prop} {R : Nat → Prop} {m : Mem} (h : DM one R m) (h' : ∀ y new, DM (rest y) R (new ++ m)) :
    DM (fun m k => one m fun y m1 => rest y m1 k) R m := fun k hk => by
  obtain ⟨y, n1, h1, h2⟩ := h _ hk
  obtain ⟨z, n2, g1, g2⟩ := h' y n1 k h1
  refine ⟨z, n2 ++ n1, by rw [List.append_assoc]; exact g1, fun m' hm hm' k' hk' => h2 m' hm (fun l hl => hm' l ?_) _ (g2 (n1 ++ m') (fun l hl => ?_) (fun l hl => ?_) k' (by rw [← List.append_assoc]; exact hk'))⟩
  · show lookB (n2 ++ n1) l ≠ none
    have hl : lookB n1 l ≠ none := hl
    rw [lookB_append]; split <;> simp_all
  · rw [lookB_append, lookB_append, hm l hl]
  · rw [lookB_append, lookB_append]
    have hl : lookB n2 l ≠ none := hl
    cases hn : lookB n1 l with
    | some x => rfl
    | none => exact hm' l (by show lookB (n2 ++ n1) l ≠ none; rw [lookB_append]; split <;> simp_all)
theorem DM.put {α : Type} {R : Nat → Prop} {m : Mem} {x : Mem → α} (l : Nat) (b : Mem → Blk) (hx : ∀ m', lookB m' l = lookB m l → x m' = x m ∧ b m' = b m) : DM (fun m k => k (x m) ((l, b m) :: m)) R m := fun k hk =>
  ⟨x m, [(l, b m)], hk, fun m' _ hm' k' hk' => by
    obtain ⟨h1, h2⟩ := hx m' (hm' l (by simp [lookB_cons]))
    rw [h1, h2]; exact hk'⟩
theorem DM.ret {α : Type} {R : Nat → Prop} {m : Mem} (x : α) : DM (fun m (k : α → Mem → Prop) => k x m) R m := fun k hk => ⟨x, [], hk, fun _ _ _ _ hk' => hk'⟩
theorem newVer_like {m m' : Mem} {l : Nat} (h : lookB m' l = lookB m l) : newVer m' l = newVer m l := by simp [newVer, h]

variable {R : Nat → Prop}
theorem DM.box (d : Nat) (y : AV) (m : Mem) : DM (sBox d y) R m :=
  DM.pre' (F := fun ys m k => k (AV.ptr d (newVer m d) 0 0) ((d, Blk.box (newVer m d) ys) :: m)) (D1.cells y) fun ys => DM.put (x := fun m => AV.ptr d (newVer m d) 0 0) d (fun m => Blk.box (newVer m d) ys) fun m' h => by rw [newVer_like h]; exact ⟨rfl, rfl⟩
theorem DM.make (ti : TI) (d : Nat) (x y : AV) (m : Mem) : DM (sMake ti d x y) R m := by
  unfold sMake
  split
  · exact DM.and _ (DM.and _ (DM.and _ (DM.put d _ fun m' h => by rw [newVer_like h]; exact ⟨rfl, rfl⟩)))
  · exact DM.no _ _
theorem DM.buildSlice (ti : TI) (d n : Nat) (ps : List (Nat × AV)) (m : Mem) : DM (sBuildSlice ti d n ps) R m :=
  DM.and _ (DM.pre' (G := fun k => sFillR ti.sh (List.replicate n ti.zero) k ps) (F := fun xs m k => k (AV.ref d (newVer m d) 0 n) ((d, Blk.row (newVer m d) ti.sh (isFlatL xs) xs) :: m)) (D1.fillR _ _ _) fun xs =>
    DM.put (x := fun m => AV.ref d (newVer m d) 0 n) d (fun m => Blk.row (newVer m d) ti.sh (isFlatL xs) xs) fun m' h => by rw [newVer_like h]; exact ⟨rfl, rfl⟩)

theorem DM.load (ag : Bool) (n : Nat) (p : AV) (m : Mem) : DM (sLoad ag n p) (NL p) m := by
  intro k hk
  unfold sLoad at hk
  split at hk
  · rename_i l ver i j
    cases hb : lookB m l with
    | none => rw [hb] at hk; exact hk.elim
    | some b =>
      rw [hb] at hk
      have hh : ∀ m', Like (NL (.ptr l ver i j)) m m' → lookB m' l = some b := fun m' hm => (hm l (NL.ptr _ _ _ _)).trans hb
      cases b with
      | gone v => exact hk.elim
      | box v xs =>
        obtain ⟨h1, h2, hk⟩ := hk
        have hd : D1 fun q : AV → Prop => if ag then j + n ≤ xs.length ∧ q (.agg ((xs.drop j).take n)) else sOpt xs[j]? q := by
          cases ag with
          | true => exact D1.and _ (D1.pure _)
          | false => exact D1.opt _
        obtain ⟨x, g1, g2⟩ := hd (fun y => k y m) hk
        exact ⟨x, [], g1, fun m' hm _ k' hk' => by
          show sLoadB ag n l ver i j (lookB m' l) m' k'
          rw [hh m' hm]
          exact ⟨h1, h2, g2 (fun y => k' y m') hk'⟩⟩
      | lent v xs i u => exact hk.elim
      | row v sh deep xs =>
        obtain ⟨h1, hk⟩ := hk
        obtain ⟨x, hx, g1⟩ := D1.opt _ _ hk
        obtain ⟨y, hy, g2⟩ := D1.part _ _ _ _ _ hx
        by_cases hu : deep = true ∧ isFlat x = false
        · unfold sUndeep at hy
          rw [if_pos hu] at hy
          refine ⟨y, [(l, .row v sh false xs)], hy.2, fun m' hm _ k' hk' => ?_⟩
          show sLoadB ag n l ver i j (lookB m' l) m' k'
          rw [hh m' hm]
          refine ⟨h1, g1 _ (g2 _ ?_)⟩
          unfold sUndeep
          rw [if_pos hu]
          exact ⟨hy.1, hk'⟩
        · unfold sUndeep at hy
          rw [if_neg hu] at hy
          refine ⟨y, [], hy, fun m' hm _ k' hk' => ?_⟩
          show sLoadB ag n l ver i j (lookB m' l) m' k'
          rw [hh m' hm]
          refine ⟨h1, g1 _ (g2 _ ?_)⟩
          unfold sUndeep
          rw [if_neg hu]
          exact hk'
  · rename_i sh xs i j
    obtain ⟨x, hx, g1⟩ := D1.opt _ _ hk
    obtain ⟨y, hy, g2⟩ := D1.part _ _ _ _ _ hx
    exact ⟨y, [], hy, fun m' _ _ k' hk' => g1 _ (g2 (fun y => k' y m') hk')⟩
  · exact hk.elim

theorem D1.put (j : Nat) (x y : AV) : D1 (sPut j x y) := by
  unfold sPut; split <;> first | exact D1.and _ (D1.pure _) | exact D1.no

theorem DM.store (n : Nat) (p y : AV) (m : Mem) : DM (fun m k => sStore n p y m fun m' => k AV.undef m') (NL p) m := by
  intro k hk
  unfold sStore at hk
  split at hk
  · rename_i l ver i j
    cases hb : lookB m l with
    | none => rw [hb] at hk; exact hk.elim
    | some b =>
      rw [hb] at hk
      have hh : ∀ m', Like (NL (.ptr l ver i j)) m m' → lookB m' l = some b := fun m' hm => (hm l (NL.ptr _ _ _ _)).trans hb
      cases b with
      | gone v => exact hk.elim
      | box v xs =>
        obtain ⟨h1, h2, hk⟩ := hk
        obtain ⟨ys, g1, g2⟩ := D1.cells _ _ hk
        refine ⟨.undef, [(l, .box v (setL xs j ys))], g1.2.2, fun m' hm _ k' hk' => ?_⟩
        show sStoreB l ver i j (lookB m' l) y m' n _
        rw [hh m' hm]
        exact ⟨h1, h2, g2 _ ⟨g1.1, g1.2.1, hk'⟩⟩
      | lent v xs i0 u0 => exact hk.elim
      | row v sh deep xs =>
        obtain ⟨h1, h2, hk⟩ := hk
        obtain ⟨x, hx, g1⟩ := D1.opt _ _ hk
        obtain ⟨h3, h4, hx⟩ := hx
        obtain ⟨x', hx', g2⟩ := D1.put _ _ _ _ hx
        refine ⟨.undef, [(l, .row v sh deep (xs.set i x'))], hx', fun m' hm _ k' hk' => ?_⟩
        show sStoreB l ver i j (lookB m' l) y m' n _
        rw [hh m' hm]
        exact ⟨h1, h2, g1 _ ⟨h3, h4, g2 _ hk'⟩⟩
  · exact hk.elim

theorem DM.app1 (ti : TI) (d : Nat) (x : AV) (ys : List AV) (m : Mem) : DM (sApp1 ti d x ys) (NL x) m := by
  unfold sApp1
  split
  · rename_i l v i n
    intro k hk
    cases hb : lookB m l with
    | none => simp only [hb] at hk; exact hk.elim
    | some b =>
      simp only [hb] at hk
      cases b with
      | row v' sh deep xs =>
        obtain ⟨h1, h2, h3, h4, h5, hk⟩ := hk
        refine ⟨.ref l (v + 1) 0 (n + ys.length), [(l, .row (v + 1) ti.sh deep (xs.take n ++ ys))], hk, fun m' hm _ k' hk' => ?_⟩
        show sAppB ti l v i n (lookB m' l) ys m' k'
        rw [(hm l (NL.ref _ _ _ _)).trans hb]
        exact ⟨h1, h2, h3, h4, h5, hk'⟩
      | _ => exact hk.elim
  · exact DM.and _ (DM.and _ (DM.put d _ fun m' h => by rw [newVer_like h]; exact ⟨rfl, rfl⟩))

theorem DM.mono {α : Type} {F : Mem → (α → Mem → Prop) → Prop} {R R' : Nat → Prop} {m : Mem} (h : DM F R m) (hr : ∀ l, R l → R' l) : DM F R' m := fun k hk =>
  have ⟨x, new, h1, h2⟩ := h k hk
  ⟨x, new, h1, fun m' hm hm' k' hk' => h2 m' (fun l hl => hm l (hr l hl)) hm' k' hk'⟩

theorem DM.app (ti : TI) (d : Nat) (x y : AV) (m : Mem) : DM (sApp ti d x y) (fun l => NL x l ∨ NL y l) m :=
  DM.and _ (DM.and _ (DM.and _ (DM.pre (G := sSrc ti.sh y) (F := fun ys m k => isFlatL ys = true ∧ sApp1 ti d x ys m k) (D1.src _ _ _) (fun m' hm => like_src _ fun l hl => hm l (.inr hl)) fun ys =>
    DM.and _ ((DM.app1 ti d x ys m).mono fun l hl => .inl hl))))
theorem DM.appT (P : Program) (tys : List TypeId) (d : Nat) (x y : AV) (m : Mem) : DM (sAppT P tys d x y) (fun l => NL x l ∨ NL y l) m := by
  unfold sAppT
  split
  · refine DM.pre' (F := fun tt m k => sSl tt.kind (sTI (tiOf P _) fun tt' => sSl tt'.kind (sTI (tiOf P tt.elem) fun ti => sApp ti d x y m k))) (D1.ti _) fun tt => ?_
    have hsl : ∀ (kd : TK) {F : Mem → (AV → Mem → Prop) → Prop} {R : Nat → Prop}, DM F R m → DM (fun m k => sSl kd (F m k)) R m := by
      intro kd F R h
      cases kd <;> first | exact h | exact DM.no _ _
    refine hsl _ (DM.pre' (F := fun tt' m k => sSl tt'.kind (sTI (tiOf P tt.elem) fun ti => sApp ti d x y m k)) (D1.ti _) fun tt' => ?_)
    exact hsl _ (DM.pre' (F := fun ti m k => sApp ti d x y m k) (D1.ti _) fun ti => DM.app ti d x y m)
  · exact DM.no _ _

theorem DM.matL (l : Nat) (x : AV) (m : Mem) : DM (sMatL l x) (fun _ => False) m := by
  unfold sMatL
  split
  · exact DM.put l _ fun m' h => by rw [newVer_like h]; exact ⟨rfl, rfl⟩
  · exact DM.ret _
theorem DM.mats : ∀ (xs : List AV) (l : Nat) (acc : List AV) (m : Mem), DM (fun m k => sMats k l acc m xs) (fun _ => False) m
  | [], l, acc, m => DM.ret acc.reverse
  | x :: r, l, acc, m => DM.bind (rest := fun y m k => sMats k (l + 1) (y :: acc) m r) (DM.matL l x m) fun y new => DM.mats r (l + 1) (y :: acc) (new ++ m)
theorem DM.matA (l : Nat) (x : AV) (m : Mem) : DM (sMatA l x) (fun _ => False) m := by
  unfold sMatA
  split
  · rename_i xs
    exact DM.bind (one := fun m k => sMats k l [] m xs) (rest := fun ys m k => k (AV.agg ys) m) (DM.mats xs l [] m) fun ys new => DM.ret (AV.agg ys)
  · exact DM.no _ _
  · exact DM.matL l _ m
theorem DM.matTs : ∀ (xs : List AV) (l : Nat) (acc : List AV) (m : Mem), DM (fun m k => sMatTs k l acc m xs) (fun _ => False) m
  | [], l, acc, m => DM.ret acc.reverse
  | x :: r, l, acc, m => DM.bind (rest := fun y m k => sMatTs k (l + 16) (y :: acc) m r) (DM.matA l x m) fun y new => DM.matTs r (l + 16) (y :: acc) (new ++ m)
theorem DM.mat (l : Nat) (x : AV) (m : Mem) : DM (sMat l x) (fun _ => False) m := by
  unfold sMat
  split
  · rename_i xs
    exact DM.bind (one := fun m k => sMatTs k l [] m xs) (rest := fun ys m k => k (AV.tup ys) m) (DM.matTs xs l [] m) fun ys new => DM.ret (AV.tup ys)
  · exact DM.matA l _ m

end Go.Vc
