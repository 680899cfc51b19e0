import Derived.StillTail
import Derived.ProofKit
import Derived.OpenShut
import Derived.ChangeOld
import Derived.Below
import Derived.Carry
import Derived.Deep.Slices
import Derived.Test.YtofpaabacebkkaaGreatDoorRows
import Derived.Test.YtofpaabacebkkaaGreatDoorCards
import Derived.Test.YtofpaabacebkkaaGreatDoorTie
import Derived.Lay
import Derived.LaidMore
import Derived.Stop.LaidErr
import Derived.Lib.LaidTab
import Derived.Shelf.Vars
import Derived.SevenTiedAt
import Derived.SizedLaws
import Derived.Sort.Grow
import Derived.Laws.IdiomCopy
import Derived.Deep.Draws
import Derived.Test.YtofpaabacebkkaaGreatDoorPkLawRunConsoleB
open Go.Proofs.Tryz
open Go.Proofs.Tryz renaming prog → pG
set_option linter.unusedVariables false
set_option linter.unusedSimpArgs false
set_option linter.unnecessarySimpa false
set_option maxRecDepth 1000000
set_option maxHeartbeats 16000000
open Array renaming getD_eq_getD_getElem? ->q0,getElem?_eq_some_iff->q1,replicate->q2
open Bool renaming false_eq_true->q3
open List renaming eq_nil_of_length_eq_zero->q4,getD_eq_getElem?_getD->q5,getElem?_eq_getElem->q6,getElem?_eq_none->q7,getElem?_eq_some_iff->q8,getElem_of_mem->q9,mem_cons->q10,mem_cons_of_mem->q11,mem_cons_self->q12,mem_map->q13,nil_append->q14,nodup_nil->q15
open Nat renaming le_refl->q16,le_trans->q17,lt_of_lt_of_le->q18,not_lt_zero->q19,zero_add->q20
namespace Go.Vc
def D1 {α:Type} (G:(α->Prop)->Prop):Prop:=∀k,G k->∃x,k x/\∀k',k' x->G k'
theorem D1.pure {α:Type} (x:α):D1 fun k=>k x:=fun _ h=>⟨x,h,fun _ h=>h⟩
theorem D1.no {α:Type}:D1 fun _:α->Prop=>False:=fun _ h=>h.elim
theorem D1.and {α:Type} {G:(α->Prop)->Prop} (p:Prop) (h:D1 G):D1 fun k=>p/\G k:=fun k hk=>
 have ⟨x,h1,h2⟩:=h k hk.2
 ⟨x,h1,fun k' hk'=>⟨hk.1,h2 k' hk'⟩⟩
theorem D1.bind {α β:Type} {G:(α->Prop)->Prop} {H:α->(β->Prop)->Prop} (h:D1 G) (h':∀x,D1 (H x)):D1 fun k=>G fun x=>H x k:=fun k hk=>
 have ⟨x,h1,h2⟩:=h _ hk;have ⟨y,g1,g2⟩:=h' x k h1
 ⟨y,g1,fun k' hk'=>h2 _ (g2 k' hk')⟩
theorem D1.opt (o:Option AV):D1 (j9 o):=by
 cases o with
 |none=>exact D1.no
 |some x=>exact D1.pure x
theorem D1.XL (o:Option (Nat × Nat × Bool)):D1 (vd o):=by
 cases o with
 |none=>exact D1.no
 |some x=>exact D1.pure x
theorem D1.ti (o:Option TI):D1 (dZ o):=by
 cases o with
 |none=>exact D1.no
 |some x=>exact D1.pure x
theorem D1.ifs {α:Type} (c:Bool) (x y:α):D1 fun k:α->Prop=>(c=true->k x)/\(c=false->k y):=by
 intro k hk;cases c with
 |true=>exact ⟨x,hk.1 rfl,fun k' hk'=>⟨fun _=>hk',fun h=>(by cases h)⟩⟩
 |false=>exact ⟨y,hk.2 rfl,fun k' hk'=>⟨fun h=>(by cases h),fun _=>hk'⟩⟩
theorem D1.pick (c a b:AV):D1 (pR c a b):=by
 unfold pR;split
 . exact D1.ifs _ _ _
 exact D1.no
theorem D1.wrap (i:IntKind) (n:Int):D1 (iZ i n):=by
 unfold iZ;split
 . exact D1.and _ (D1.pure _)
 exact D1.pure _
theorem D1.fu (op:BinOp) (i:IntKind) (x y:Int):D1 (fu op i x y):=by
 unfold Go.Vc.fu
 split<;>first
  |exact D1.wrap _ _
  |exact D1.pure _
  |exact D1.and _ (D1.wrap _ _)
  |exact D1.and _ (D1.pure _)
  |exact D1.no
theorem D1.kA (op:BinOp) (x y:ByteArray):D1 (kA op x y):=by
 unfold Go.Vc.kA
 split<;>first
  |exact D1.pure _
  |exact D1.and _ (D1.pure _)
  |exact D1.no
theorem D1.bin (op:BinOp) (kd:TK) (a b:AV):D1 (k8 op kd a b):=by
 unfold k8;split
 . exact D1.and _ (D1.fu _ _ _ _)
 . exact D1.kA _ _ _
 . split<;>first|exact D1.pure _|exact D1.no
 exact D1.no
theorem D1.not (a:AV):D1 (y4 a):=by unfold y4;split<;>first|exact D1.pure _|exact D1.no
theorem D1.neg (a:AV):D1 (B8 a):=by unfold B8;split<;>first|exact D1.wrap _ _|exact D1.no
theorem D1.conv (d:TK) (a:AV):D1 (tG d a):=by unfold tG;split<;>first|exact D1.wrap _ _|exact D1.pure _|exact D1.no
theorem D1.max (a b:AV):D1 (y5 a b):=by unfold y5;split<;>first|exact D1.pure _|exact D1.no
theorem D1.min (a b:AV):D1 (mL a b):=by unfold mL;split<;>first|exact D1.pure _|exact D1.no
theorem D1.aX (i:Nat) (a:AV):D1 (y6 i a):=by unfold y6;split<;>first|exact D1.opt _|exact D1.no
theorem D1.part (ag:Bool) (n j:Nat) (x:AV):D1 (dh ag n j x):=by unfold dh;split<;>first|exact D1.opt _|exact D1.and _ (D1.pure _)|exact D1.no
theorem D1.Wm (ag:Bool) (n j:Nat) (x:AV):D1 (ql ag n j x):=by unfold ql;split<;>first|exact D1.part _ _ _ _|exact D1.no
theorem D1.index (x i:AV):D1 (mO x i):=by unfold mO;split<;>first|exact D1.and _ (D1.pure _)|exact D1.no
theorem D1.cells (x:AV):D1 (eH x):=by unfold eH;split<;>first|exact D1.pure _|exact D1.no
theorem D1.fill (fs:List (Nat × Nat × Bool)):∀(ps:List (Nat × AV)) (cells:lA),D1 fun k=>mj fs cells k ps
 | [],cells=>D1.pure cells
 |(i,x)::r,cells=>D1.bind (H:=fun (fd:Nat × Nat × Bool) k=>eH x fun ys=>ys.length=fd.2.1/\fd.1+ys.length<=cells.length/\mj fs (jd cells fd.1 ys) k r) (D1.XL _) fun fd=>
    D1.bind (H:=fun (ys:lA) k=>ys.length=fd.2.1/\fd.1+ys.length<=cells.length/\mj fs (jd cells fd.1 ys) k r) (D1.cells x) fun ys=>D1.and _ (D1.and _ (D1.fill fs r _))
theorem D1.build (ti:TI) (ps:List (Nat × AV)):D1 (qk ti ps):=
 D1.bind (H:=fun (zs:lA) k=>mj ti.fields zs (fun cs=>k (AV.agg cs)) ps) (D1.cells _) fun zs=>D1.bind (G:=fun k=>mj ti.fields zs k ps) (H:=fun (cs:lA) k=>k (AV.agg cs)) (D1.fill _ _ _) fun cs=>D1.pure (AV.agg cs)
theorem D1.TP (sh:Sh):∀(ps:List (Nat × AV)) (xs:lA),D1 fun k=>mT sh xs k ps
 | [],xs=>D1.pure xs
 |(i,x)::r,xs=>D1.and _ (D1.and _ (D1.and _ (D1.TP sh r _)))
theorem D1.live (v:Nat) (b:Option bj) (x:AV):D1 fun k:AV->Prop=>ga v b (k x):=by unfold ga;split<;>first|exact D1.and _ (D1.pure _)|exact D1.no
theorem D1.nil (m:Mem) (x:AV):D1 (ry m x):=by unfold ry;split<;>first|exact D1.live _ _ _|exact D1.pure _|exact D1.no
theorem D1.field (j:Nat) (m:Mem) (x:AV):D1 (hU j m x):=by unfold hU;split<;>first|exact D1.live _ _ _|exact D1.pure _|exact D1.no
theorem D1.len (kd:TK) (m:Mem) (x:AV):D1 (mN kd m x):=by unfold mN;split<;>first|exact D1.live _ _ _|exact D1.pure _|exact D1.no
theorem D1.Y5 {α:Type} (sh:Sh) (v:Nat) (b:Option bj) {G:(α->Prop)->Prop} (h:D1 G):D1 fun k=>Ch sh v b (G k):=by unfold Ch;split<;>first|exact D1.and _ (D1.and _ h)|exact D1.no
theorem D1.Wa (x:Option AV) (d:Int):D1 (mg x d):=by unfold mg;split<;>first|exact D1.pure _|exact D1.no
theorem D1.XM (sh:Sh) (l v i0 n:Nat) (i:Int) (b:Option bj):D1 (pY sh l v i0 n i b):=by unfold pY;split<;>first|exact D1.and _ (D1.and _ (D1.and _ (D1.pure _)))|exact D1.and _ (D1.and _ (D1.and _ (D1.and _ (D1.pure _))))|exact D1.no
theorem D1.idx (sh:Sh) (m:Mem) (x i:AV):D1 (ow sh m x i):=by unfold ow;split<;>first|exact D1.and _ (D1.and _ (D1.pure _))|exact D1.XM _ _ _ _ _ _ _|exact D1.no
theorem D1.slice (sh:Sh) (x:AV) (lo hi:Option AV) (m:Mem):D1 (fN sh x lo hi m):=by
 unfold fN;split
 . exact D1.bind (D1.Wa _ _) fun l=>D1.bind (D1.Wa _ _) fun h=>D1.and _ (D1.pure _)
 . exact D1.bind (D1.Wa _ _) fun l=>D1.bind (D1.Wa _ _) fun h=>D1.and _ (D1.and _ (D1.pure _))
 . exact D1.Y5 _ _ _ (D1.bind (D1.Wa _ _) fun l=>D1.bind (D1.Wa _ _) fun h=>D1.and _ (D1.pure _))
 exact D1.no
theorem D1.U0 (m:Mem) (x:AV):D1 (ju m x):=by unfold ju;split<;>first|exact D1.pure _|exact D1.live _ _ _|exact D1.and _ (D1.pure _)
theorem D1.Oo:∀(xs:lA) (acc:lU),D1 fun k=>jx k acc xs
 | [],_=>D1.pure _
 |x::r,acc=>by
  cases x<;>try exact D1.no
  rename_i v;cases v<;>try exact D1.no
  rename_i i z;cases i<;>try exact D1.no
  exact D1.and _ (D1.Oo r _)
theorem D1.bytes (y:AV):D1 (oB y):=by unfold oB;split<;>first|exact D1.Oo _ _|exact D1.no
theorem D1.Y6 (y:AV):D1 (Ej y):=by unfold Ej;split<;>first|exact D1.and _ (D1.pure _)|exact D1.no
theorem D1.wS {α:Type} (kd:TK) {G:(α->Prop)->Prop} (h:D1 G):D1 fun k=>Vc.wS kd (G k):=by unfold Vc.wS;split<;>first|exact h|exact D1.no
theorem D1.Y7 (P:Program) (tt:TI) (x:AV) (lo hi:Option AV) (m:Mem):D1 (mW P tt x lo hi m):=by
 unfold mW;split
 . exact D1.and _ (D1.slice _ _ _ _ _)
 . exact D1.and _ (D1.bind (D1.ti _) fun ti=>D1.slice _ _ _ _ _)
 exact D1.no
theorem D1.Wn (sh:Sh) (v i n:Nat) (b:Option bj):D1 (rh sh v i n b):=by unfold rh;split<;>first|exact D1.and _ (D1.and _ (D1.and _ (D1.pure _)))|exact D1.no
theorem D1.src (sh:Sh) (y:AV) (m:Mem):D1 (qj sh y m):=by unfold qj;split<;>first|exact D1.and _ (D1.pure _)|exact D1.Wn _ _ _ _ _
def NL (x:AV) (l:Nat):Prop:=∃ae,(l,ae)∈an x
theorem NL.ref (l v i n:Nat):NL (.ref l v i n) l:=⟨v,by simp [an]⟩
theorem NL.ptr (l v i j:Nat):NL (.ptr l v i j) l:=⟨v,by simp [an]⟩
def jW (R:Nat->Prop) (m m':Mem):Prop:=∀l,R l->ah m' l=ah m l
theorem Oq {m m':Mem} {x:AV} (h:jW (NL x) m m'):ry m' x=ry m x:=by funext k;unfold ry;split<;>first|rfl|exact congrArg (fun b=>ga _ b _) (h _ (NL.ptr _ _ _ _))
theorem Ho {m m':Mem} {x:AV} (j:Nat) (h:jW (NL x) m m'):hU j m' x=hU j m x:=by funext k;unfold hU;split<;>first|rfl|exact congrArg (fun b=>ga _ b _) (h _ (NL.ptr _ _ _ _))
theorem Ot {m m':Mem} {x:AV} (kd:TK) (h:jW (NL x) m m'):mN kd m' x=mN kd m x:=by funext k;unfold mN;split<;>first|rfl|rw [h _ (NL.ref _ _ _ _)]
theorem Ou {m m':Mem} {x:AV} (sh:Sh) (i:AV) (h:jW (NL x) m m'):ow sh m' x i=ow sh m x i:=by funext k;unfold ow;split<;>first|rfl|rw [h _ (NL.ref _ _ _ _)]
theorem Hp {m m':Mem} {x:AV} (sh:Sh) (lo hi:Option AV) (h:jW (NL x) m m'):fN sh x lo hi m'=fN sh x lo hi m:=by funext k;unfold fN;split<;>first|rfl|rw [h _ (NL.ref _ _ _ _)]
theorem EM {m m':Mem} {x:AV} (h:jW (NL x) m m'):ju m' x=ju m x:=by funext k;unfold ju;split<;>first|rfl|rw [h _ (NL.ref _ _ _ _)]
theorem Ov {P:Program} {tt:TI} {m m':Mem} {x:AV} (lo hi:Option AV) (h:jW (NL x) m m'):mW P tt x lo hi m'=mW P tt x lo hi m:=by funext k;unfold mW;simp only [Hp _ _ _ h]
theorem Ow {m m':Mem} {x:AV} (sh:Sh) (h:jW (NL x) m m'):qj sh x m'=qj sh x m:=by funext k;unfold qj;split<;>first|rfl|rw [h _ (NL.ref _ _ _ _)]
theorem qp {m m':Mem} {x:AV} (h:jW (NL x) m m'):fy m' x=fy m x:=by funext k;unfold fy;split<;>first|rfl|rw [h _ (NL.ref _ _ _ _)]
theorem rO {m m':Mem} (k:lA->Prop):∀(xs acc:lA),(∀x,x∈xs->jW (NL x) m m')->cV m' k acc xs=cV m k acc xs
 | [],acc,_=>rfl
 |x::r,acc,h=>by simp only [cV];rw [qp (h x (q12 ..))];congr 1;funext y;exact rO k r _ fun z hz=>h z (q11 _ hz)
theorem KW {m m':Mem} {x:AV} (h:jW (NL x) m m'):iu m' x=iu m x:=by
 funext k;cases x with
 |agg xs=>
  simp only [iu];refine rO _ xs [] fun y hy l hl=>h l ?_;obtain ⟨ae,hv⟩:=hl;obtain ⟨i,hi,rfl⟩:=q9 hy;exact ⟨ae,by simp only [an];exact bt hi hv⟩
 |ref l v i n=>simp only [iu];rw [qp h]
 |_=>rfl
theorem qq {m m':Mem} (k:lA->Prop):∀(xs acc:lA),(∀x,x∈xs->jW (NL x) m m')->dE m' k acc xs=dE m k acc xs
 | [],acc,_=>rfl
 |x::r,acc,h=>by simp only [dE];rw [KW (h x (q12 ..))];congr 1;funext y;exact qq k r _ fun z hz=>h z (q11 _ hz)
theorem dG (a b:Mem) (l:Nat):ah (a++b) l=match ah a l with|some x=>some x|none=>ah b l:=by
 induction a with
 |nil=>rfl
 |cons p r ih=>
  obtain ⟨k,v⟩:=p;simp only [List.cons_append,aw];by_cases h:k=l
  . simp [h]
  simp [h,ih]
def DM {α:Type} (F:Mem->(α->Mem->Prop)->Prop) (R:Nat->Prop) (m:Mem):Prop:=
 ∀k,F m k->∃x new,k x (new++m)/\∀m',jW R m m'->jW (fun l=>ah new l≠none) m m'->∀k',k' x (new++m')->F m' k'
theorem DM.still {α:Type} {R:Nat->Prop} {m:Mem} {G:Mem->(α->Prop)->Prop} (h:D1 (G m)) (hl:∀m',jW R m m'->G m'=G m):DM (fun m k=>G m fun v=>k v m) R m:=fun k hk=>
 have ⟨x,h1,h2⟩:=h _ hk
 ⟨x,[],h1,fun m' hm _ k' hk'=>by show G m' _;rw [hl m' hm];exact h2 _ hk'⟩
theorem DM.no {α:Type} (R:Nat->Prop) (m:Mem):DM (fun _ (_:α->Mem->Prop)=>False) R m:=fun _ h=>h.elim
theorem DM.and {α:Type} {F:Mem->(α->Mem->Prop)->Prop} {R:Nat->Prop} {m:Mem} (p:Prop) (h:DM F R m):DM (fun m k=>p/\F m k) R m:=fun k hk=>
 have ⟨x,new,h1,h2⟩:=h k hk.2
 ⟨x,new,h1,fun m' hm hm' k' hk'=>⟨hk.1,h2 m' hm hm' k' hk'⟩⟩
theorem DM.pre {α β:Type} {F:α->Mem->(β->Mem->Prop)->Prop} {G:Mem->(α->Prop)->Prop} {R:Nat->Prop} {m:Mem} (hg:D1 (G m)) (hl:∀m',jW R m m'->G m'=G m) (h:∀x,DM (F x) R m):
 DM (fun m k=>G m fun x=>F x m k) R m:=fun k hk=>
 have ⟨x,h1,h2⟩:=hg _ hk;have ⟨y,new,g1,g2⟩:=h x k h1
 ⟨y,new,g1,fun m' hm hm' k' hk'=>by show G m' _;rw [hl m' hm];exact h2 _ (g2 m' hm hm' k' hk')⟩
theorem DM.EN {α β:Type} {F:α->Mem->(β->Mem->Prop)->Prop} {G:(α->Prop)->Prop} {R:Nat->Prop} {m:Mem} (hg:D1 G) (h:∀x,DM (F x) R m):DM (fun m k=>G fun x=>F x m k) R m:=
 DM.pre (G:=fun _=>G) hg (fun _ _=>rfl) h
theorem DM.bind {α β:Type} {one:Mem->(α->Mem->Prop)->Prop} {rest:α->Mem->(β->Mem->Prop)->Prop} {R:Nat->Prop} {m:Mem} (h:DM one R m) (h':∀y new,DM (rest y) R (new++m)):
 DM (fun m k=>one m fun y m1=>rest y m1 k) R m:=fun k hk=>by
 obtain ⟨y,n1,h1,h2⟩:=h _ hk;obtain ⟨z,n2,g1,g2⟩:=h' y n1 k h1;refine ⟨z,n2++n1,by rw [List.append_assoc];exact g1,fun m' hm hm' k' hk'=>h2 m' hm (fun l hl=>hm' l ?_) _ (g2 (n1++m') (fun l hl=> ?_) (fun l hl=> ?_) k' (by rw [←List.append_assoc];exact hk'))⟩
 . show ah (n2++n1) l≠none;have hl:ah n1 l≠none:=hl;rw [dG];split<;>simp_all
 . rw [dG,dG,hm l hl]
 rw [dG,dG];have hl:ah n2 l≠none:=hl;cases hn:ah n1 l with
 |some x=>rfl
 |none=>exact hm' l (by show ah (n2++n1) l≠none;rw [dG];split<;>simp_all)
theorem DM.put {α:Type} {R:Nat->Prop} {m:Mem} {x:Mem->α} (l:Nat) (b:Mem->bj) (hx:∀m',ah m' l=ah m l->x m'=x m/\b m'=b m):DM (fun m k=>k (x m) ((l,b m)::m)) R m:=fun k hk=>
 ⟨x m,[(l,b m)],hk,fun m' _ hm' k' hk'=>by
   obtain ⟨h1,h2⟩:=hx m' (hm' l (by simp [aw]))
   rw [h1,h2];exact hk'⟩
theorem DM.ret {α:Type} {R:Nat->Prop} {m:Mem} (x:α):DM (fun m (k:α->Mem->Prop)=>k x m) R m:=fun k hk=>⟨x,[],hk,fun _ _ _ _ hk'=>hk'⟩
theorem gh {m m':Mem} {l:Nat} (h:ah m' l=ah m l):az m' l=az m l:=by simp [az,h]
variable {R:Nat->Prop}
theorem DM.box (d:Nat) (y:AV) (m:Mem):DM (Cd d y) R m:=
 DM.EN (F:=fun ys m k=>k (AV.ptr d (az m d) 0 0) ((d,bj.box (az m d) ys)::m)) (D1.cells y) fun ys=>DM.put (x:=fun m=>AV.ptr d (az m d) 0 0) d (fun m=>bj.box (az m d) ys) fun m' h=>by rw [gh h];exact ⟨rfl,rfl⟩
theorem DM.make (ti:TI) (d:Nat) (x y:AV) (m:Mem):DM (rf ti d x y) R m:=by
 unfold rf;split
 . exact DM.and _ (DM.and _ (DM.and _ (DM.put d _ fun m' h=>by rw [gh h];exact ⟨rfl,rfl⟩)))
 exact DM.no _ _
theorem DM.buildSlice (ti:TI) (d n:Nat) (ps:List (Nat × AV)) (m:Mem):DM (ir ti d n ps) R m:=
 DM.and _ (DM.EN (G:=fun k=>mT ti.sh (List.replicate n ti.zero) k ps) (F:=fun xs m k=>k (AV.ref d (az m d) 0 n) ((d,bj.row (az m d) ti.sh (bn xs) xs)::m)) (D1.TP _ _ _) fun xs=>
  DM.put (x:=fun m=>AV.ref d (az m d) 0 n) d (fun m=>bj.row (az m d) ti.sh (bn xs) xs) fun m' h=>by rw [gh h];exact ⟨rfl,rfl⟩)
theorem DM.load (ag:Bool) (n:Nat) (p:AV) (m:Mem):DM (n7 ag n p) (NL p) m:=by
 intro k hk;unfold n7 at hk;split at hk
 . rename_i l ae i j;cases hb:ah m l with
   |none=>rw [hb] at hk;exact hk.elim
   |some b=>
    rw [hb] at hk;have hh:∀m',jW (NL (.ptr l ae i j)) m m'->ah m' l=some b:=fun m' hm=>(hm l (NL.ptr _ _ _ _)).trans hb;cases b with
    |gone v=>exact hk.elim
    |box v xs=>
     obtain ⟨h1,h2,hk⟩:=hk;have hd:D1 fun q:AV->Prop=>if ag then j+n<=xs.length/\q (.agg ((xs.drop j).take n)) else j9 xs[j]? q:=by
      cases ag with
      |true=>exact D1.and _ (D1.pure _)
      |false=>exact D1.opt _
     obtain ⟨x,g1,g2⟩:=hd (fun y=>k y m) hk
     exact ⟨x,[],g1,fun m' hm _ k' hk'=>by
      show dR ag n l ae i j (ah m' l) m' k';rw [hh m' hm]
      exact ⟨h1,h2,g2 (fun y=>k' y m') hk'⟩⟩
    |j8 v xs i u=>exact hk.elim
    |sub v sh xs u=>
     obtain ⟨h1,hk⟩:=hk;obtain ⟨x,hx,g1⟩:=D1.opt _ _ hk;obtain ⟨y,hy,g2⟩:=D1.part _ _ _ _ _ hx.2;refine ⟨y,[],hy,fun m' hm _ k' hk'=> ?_⟩;show dR ag n l ae i j (ah m' l) m' k';rw [hh m' hm];exact ⟨h1,g1 _ ⟨hx.1,g2 (fun y=>k' y m') hk'⟩⟩
    |row v sh deep xs=>
     obtain ⟨h1,hk⟩:=hk;obtain ⟨x,hx,g1⟩:=D1.opt _ _ hk;obtain ⟨y,hy,g2⟩:=D1.part _ _ _ _ _ hx;by_cases hu:deep=true/\b9 x=false
     . unfold dC at hy;rw [if_pos hu] at hy;refine ⟨y,[(l,.row v sh false xs)],hy.2,fun m' hm _ k' hk'=> ?_⟩;show dR ag n l ae i j (ah m' l) m' k';rw [hh m' hm];refine ⟨h1,g1 _ (g2 _ ?_)⟩;unfold dC;rw [if_pos hu];exact ⟨hy.1,hk'⟩
     unfold dC at hy;rw [if_neg hu] at hy;refine ⟨y,[],hy,fun m' hm _ k' hk'=> ?_⟩;show dR ag n l ae i j (ah m' l) m' k';rw [hh m' hm];refine ⟨h1,g1 _ (g2 _ ?_)⟩;unfold dC;rw [if_neg hu];exact hk'
 . rename_i sh xs i j;obtain ⟨x,hx,g1⟩:=D1.opt _ _ hk;obtain ⟨y,hy,g2⟩:=D1.part _ _ _ _ _ hx;exact ⟨y,[],hy,fun m' _ _ k' hk'=>g1 _ (g2 (fun y=>k' y m') hk')⟩
 exact hk.elim
theorem D1.put (j:Nat) (x y:AV):D1 (y7 j x y):=by unfold y7;split<;>first|exact D1.and _ (D1.pure _)|exact D1.no
theorem DM.store (n:Nat) (p y:AV) (m:Mem):DM (fun m k=>kC n p y m fun m'=>k AV.undef m') (NL p) m:=by
 intro k hk;unfold kC at hk;split at hk
 . rename_i l ae i j;cases hb:ah m l with
   |none=>rw [hb] at hk;exact hk.elim
   |some b=>
    rw [hb] at hk;have hh:∀m',jW (NL (.ptr l ae i j)) m m'->ah m' l=some b:=fun m' hm=>(hm l (NL.ptr _ _ _ _)).trans hb;cases b with
    |gone v=>exact hk.elim
    |box v xs=>
     obtain ⟨h1,h2,hk⟩:=hk;obtain ⟨ys,g1,g2⟩:=D1.cells _ _ hk;refine ⟨.undef,[(l,.box v (jd xs j ys))],g1.2.2,fun m' hm _ k' hk'=> ?_⟩;show dD l ae i j (ah m' l) y m' n _;rw [hh m' hm];exact ⟨h1,h2,g2 _ ⟨g1.1,g1.2.1,hk'⟩⟩
    |j8 v xs i0 u0=>exact hk.elim
    |sub v sh xs u0=>
     obtain ⟨h1,h2,hk⟩:=hk;obtain ⟨x,hx,g1⟩:=D1.opt _ _ hk;obtain ⟨h3,h4,hx⟩:=hx;obtain ⟨x',hx',g2⟩:=D1.put _ _ _ _ hx;refine ⟨.undef,[(l,.sub v sh (xs.set i x') u0)],hx',fun m' hm _ k' hk'=> ?_⟩;show dD l ae i j (ah m' l) y m' n _;rw [hh m' hm];exact ⟨h1,h2,g1 _ ⟨h3,h4,g2 _ hk'⟩⟩
    |row v sh deep xs=>
     obtain ⟨h1,h2,hk⟩:=hk;obtain ⟨x,hx,g1⟩:=D1.opt _ _ hk;obtain ⟨h3,h4,hx⟩:=hx;obtain ⟨x',hx',g2⟩:=D1.put _ _ _ _ hx;refine ⟨.undef,[(l,.row v sh deep (xs.set i x'))],hx',fun m' hm _ k' hk'=> ?_⟩;show dD l ae i j (ah m' l) y m' n _;rw [hh m' hm];exact ⟨h1,h2,g1 _ ⟨h3,h4,g2 _ hk'⟩⟩
 exact hk.elim
theorem DM.XN (ti:TI) (d:Nat) (x:AV) (ys:lA) (m:Mem):DM (om ti d x ys) (NL x) m:=by
 unfold om;split
 . rename_i l v i n;intro k hk;cases hb:ah m l with
   |none=>simp only [hb] at hk;exact hk.elim
   |some b=>
    simp only [hb] at hk;cases b with
    |row v' sh deep xs=>
     obtain ⟨h1,h2,h3,h4,h5,hk⟩:=hk;refine ⟨.ref l (v+1) 0 (n+ys.length),[(l,.row (v+1) ti.sh deep (xs.take n++ys))],hk,fun m' hm _ k' hk'=> ?_⟩;show uf ti l v i n (ah m' l) ys m' k';rw [(hm l (NL.ref _ _ _ _)).trans hb];exact ⟨h1,h2,h3,h4,h5,hk'⟩
    |_=>exact hk.elim
 exact DM.and _ (DM.and _ (DM.put d _ fun m' h=>by rw [gh h];exact ⟨rfl,rfl⟩))
theorem DM.mono {α:Type} {F:Mem->(α->Mem->Prop)->Prop} {R R':Nat->Prop} {m:Mem} (h:DM F R m) (hr:∀l,R l->R' l):DM F R' m:=fun k hk=>
 have ⟨x,new,h1,h2⟩:=h k hk
 ⟨x,new,h1,fun m' hm hm' k' hk'=>h2 m' (fun l hl=>hm l (hr l hl)) hm' k' hk'⟩
theorem DM.app (ti:TI) (d:Nat) (x y:AV) (m:Mem):DM (vg ti d x y) (fun l=>NL x l\/NL y l) m:=
 DM.and _ (DM.and _ (DM.and _ (DM.pre (G:=qj ti.sh y) (F:=fun ys m k=>bn ys=true/\om ti d x ys m k) (D1.src _ _ _) (fun m' hm=>Ow _ fun l hl=>hm l (.inr hl)) fun ys=>
  DM.and _ ((DM.XN ti d x ys m).mono fun l hl=>.inl hl))))
theorem DM.Wo (l:Nat) (x:AV) (m:Mem):DM (nL l x) (fun _=>False) m:=by
 unfold nL;split
 . exact DM.put l _ fun m' h=>by rw [gh h];exact ⟨rfl,rfl⟩
 exact DM.ret _
theorem DM.Wp:∀(xs:lA) (l:Nat) (acc:lA) (m:Mem),DM (fun m k=>pW k l acc m xs) (fun _=>False) m
 | [],l,acc,m=>DM.ret acc.reverse
 |x::r,l,acc,m=>DM.bind (rest:=fun y m k=>pW k (l+1) (y::acc) m r) (DM.Wo l x m) fun y new=>DM.Wp r (l+1) (y::acc) (new++m)
theorem DM.Wq (l:Nat) (x:AV) (m:Mem):DM (nM l x) (fun _=>False) m:=by
 unfold nM;split
 . rename_i xs;exact DM.bind (one:=fun m k=>pW k l [] m xs) (rest:=fun ys m k=>k (AV.agg ys) m) (DM.Wp xs l [] m) fun ys new=>DM.ret (AV.agg ys)
 . exact DM.no _ _
 exact DM.Wo l _ m
theorem DM.TQ:∀(xs:lA) (l:Nat) (acc:lA) (m:Mem),DM (fun m k=>lY k l acc m xs) (fun _=>False) m
 | [],l,acc,m=>DM.ret acc.reverse
 |x::r,l,acc,m=>DM.bind (rest:=fun y m k=>lY k (l+16) (y::acc) m r) (DM.Wq l x m) fun y new=>DM.TQ r (l+16) (y::acc) (new++m)
theorem DM.YR (l:Nat) (x:AV) (m:Mem):DM (mU l x) (fun _=>False) m:=by
 unfold mU;split
 . rename_i xs;exact DM.bind (one:=fun m k=>lY k l [] m xs) (rest:=fun ys m k=>k (AV.aX ys) m) (DM.TQ xs l [] m) fun ys new=>DM.ret (AV.aX ys)
 exact DM.Wq l _ m
end Go.Vc
namespace Go.Vc
def Ct (P:Program) (f:FuncId) (d:Nat) (ρ:lN) (io:List bj) (args:lA) (m:Mem) (k:AV->Mem->Prop) (_:Pack k):Prop:=
 ∃r io1,rJ P f io args (fun x io'=>x=r/\io'=io1)/\mU (1000*(d+1)) r (fW ρ io1 m) k
@[congr] theorem QP {P:Program} {f:FuncId} {d:Nat} {ρ:lN} {io io':List bj} {args args':lA} {m:Mem} {k:AV->Mem->Prop} {q:Pack k} (h:io=io') (h':args=args'):Ct P f d ρ io args m k q=Ct P f d ρ io' args' m k q:=by rw [h,h']
def EO (P:Program) (f:FuncId) (xs:lA) (m:Mem) (k:AV->Mem->Prop):Prop:=
 ∃r new,k r (new++m)/\∀m',jW (fun l=>∃x,x∈xs/\NL x l) m m'->jW (fun l=>ah new l≠none) m m'->∀k',k' r (new++m')->gY P f xs m' k'
def iQ (P:Program) (f:FuncId) (d:Nat) (xs ts:lA) (m:Mem) (k:AV->Mem->Prop) (_:Pack k):Prop:=(∃own r,Fn P f ts own (· =r)/\(own=false->ax xs)/\UI own d m r k)∨
 (∃ρ,(∀l,l∈ρ->∃x,x∈xs/\NL x l)/\pI m (fun io=>oD ρ (fun args=>Ct P f d ρ io args m k ⟨⟩) [] xs) [] ρ)\/EO P f xs m k
@[congr] theorem R8 {P:Program} {f:FuncId} {d:Nat} {xs ts ts':lA} {m:Mem} {k:AV->Mem->Prop} {q:Pack k} (h:ts=ts'):iQ P f d xs ts m k q=iQ P f d xs ts' m k q:=by rw [h]
theorem ak {P:Program} {f:FuncId} {d:Nat} {xs ts:lA} {m:Mem} {k:AV->Mem->Prop} {r:AV} (h:Fn P f ts true (· =r)) (hk:mU (1000*(d+1)) r m k) {q:Pack k}:iQ P f d xs ts m k q:=
 .inl ⟨true,r,h,fun h=>(by cases h),hk⟩
theorem aH {P:Program} {f:FuncId} {d:Nat} {xs ts:lA} {m:Mem} {k:AV->Mem->Prop} {r:AV} (h:Fn P f ts false (· =r)) (hl:ax xs) (hk:k r m) {q:Pack k}:iQ P f d xs ts m k q:=
 .inl ⟨false,r,h,fun _=>hl,hk⟩
def nd (P:Program) (f:FuncId) (d:Nat) (xs:lA) (m:Mem) (k:AV->Mem->Prop):Prop:=dE m (fun ts=>iQ P f d xs ts m k ⟨⟩) [] xs
@[congr] theorem R9 {P:Program} {f:FuncId} {d:Nat} {xs xs':lA} {m:Mem} {k:AV->Mem->Prop} (h:xs=xs'):nd P f d xs m k=nd P f d xs' m k:=by rw [h]
theorem Bc (P:Program) (f:FuncId) (d:Nat) (x:AV) (xs:lA) (m:Mem) (k:AV->Mem->Prop):nd P f d (x::xs) m k=dE m (fun ts=>iQ P f d (x::xs) ts m k ⟨⟩) [] (x::xs):=rfl
theorem D1.Ox (m:Mem) (x:AV):D1 (fy m x):=by
 unfold fy
 split<;>first
  |exact D1.pure _
  |exact D1.no
  |(unfold nK;split<;>first|exact D1.and _ (D1.and _ (D1.pure _))|exact D1.no)
theorem D1.Wr (P:Program) (si ti:TI) (m:Mem) (x:AV):D1 (fO P si ti x m):=by
 unfold fO;split
 . exact D1.bind (D1.ti _) fun ei=>D1.wS _ (D1.bind (D1.Ox m x) fun y=>D1.bytes y)
 . exact D1.Y6 _
 exact D1.conv _ _
theorem Hq {P:Program} {si ti:TI} {m m':Mem} {x:AV} (h:jW (NL x) m m'):fO P si ti x m'=fO P si ti x m:=by funext k;unfold fO;simp only [qp h]
theorem D1.Jv (m:Mem):∀(xs acc:lA),D1 fun k=>cV m k acc xs
 | [],acc=>D1.pure acc.reverse
 |x::r,acc=>D1.bind (H:=fun y k=>cV m k (y::acc) r) (D1.Ox m x) fun y=>D1.Jv m r (y::acc)
theorem D1.tree (m:Mem) (x:AV):D1 (iu m x):=by
 unfold iu;split
 . rename_i xs;exact D1.bind (G:=fun k=>cV m k [] xs) (H:=fun ys k=>k (AV.agg ys)) (D1.Jv m xs []) fun ys=>D1.pure (AV.agg ys)
 . exact D1.pure _
 . exact D1.pure _
 exact D1.Ox m _
theorem D1.trees (m:Mem):∀(xs acc:lA),D1 fun k=>dE m k acc xs
 | [],acc=>D1.pure acc.reverse
 |x::r,acc=>D1.bind (H:=fun y k=>dE m k (y::acc) r) (D1.tree m x) fun y=>D1.trees m r (y::acc)
theorem DM.res (own:Bool) (d:Nat) (r:AV) (m:Mem):DM (fun m k=>UI own d m r k) (fun _=>False) m:=by
 cases own with
 |true=>exact DM.YR _ r m
 |false=>exact DM.ret r
theorem D1.XO {α:Type} (b:Option bj) {G:bj->(α->Prop)->Prop} (h:∀b,D1 (G b)):D1 fun k=>rK b fun b=>G b k:=by unfold rK;split<;>first|exact h _|exact D1.and _ (h _)|exact D1.no
theorem D1.XP (m:Mem):∀(ρ:lN) (acc:List bj),D1 fun k=>pI m k acc ρ
 | [],acc=>D1.pure acc.reverse
 |l::r,acc=>D1.and _ (D1.XO (ah m l) (G:=fun b k=>pI m k (b::acc) r) fun b=>D1.XP m r (b::acc))
theorem EP {m m':Mem} (k:List bj->Prop):∀(ρ:lN) (acc:List bj),(∀l,l∈ρ->ah m' l=ah m l)->pI m' k acc ρ=pI m k acc ρ
 | [],acc,_=>rfl
 |l::r,acc,h=>by rw [pe,pe,h l (q12 ..)];have:(fun b=>pI m' k (b::acc) r)=fun b=>pI m k (b::acc) r:=funext fun b=>EP k r (b::acc) fun l' hl=>h l' (q11 _ hl);rw [this]
theorem D1.pos (l:Nat):∀(ρ:lN) (i:Nat),D1 fun k=>vo l k i ρ
 | [],_=>D1.no
 |l0::r,i=>by
  have h1:=D1.pos l r (i+1);intro k hk;have hk:vo l k i (l0::r):=hk;rw [kq] at hk;split at hk
  . rename_i e;exact ⟨i,hk,fun k' h'=>by show vo l k' i (l0::r);rw [kq,if_pos e];exact h'⟩
  rename_i e;obtain ⟨x,h2,h3⟩:=h1 k hk;exact ⟨x,h2,fun k' h'=>by show vo l k' i (l0::r);rw [kq,if_neg e];exact h3 k' h'⟩
theorem D1.Dr (ρ:lN) (x:AV):D1 (EB ρ x):=by
 unfold EB
 split<;>first
  |exact D1.pure _
  |exact D1.no
  |exact D1.bind (H:=fun j k=>k _) (D1.pos _ ρ 0) fun j=>D1.pure _
theorem D1.Ws (ρ:lN):∀(xs acc:lA),D1 fun k=>A2 ρ k acc xs
 | [],acc=>D1.pure acc.reverse
 |x::r,acc=>D1.bind (H:=fun y k=>A2 ρ k (y::acc) r) (D1.Dr ρ x) fun y=>D1.Ws ρ r (y::acc)
theorem D1.XQ (ρ:lN) (x:AV):D1 (nP ρ x):=by
 unfold nP;split
 . rename_i xs;exact D1.bind (G:=fun k=>A2 ρ k [] xs) (H:=fun ys k=>k (AV.agg ys)) (D1.Ws ρ xs []) fun ys=>D1.pure (AV.agg ys)
 exact D1.Dr ρ _
theorem D1.U1 (ρ:lN):∀(xs acc:lA),D1 fun k=>oD ρ k acc xs
 | [],acc=>D1.pure acc.reverse
 |x::r,acc=>D1.bind (H:=fun y k=>oD ρ k (y::acc) r) (D1.XQ ρ x) fun y=>D1.U1 ρ r (y::acc)
theorem mw:∀(ρ:lN) (io:List bj) (m:Mem),fW ρ io m=fW ρ io []++m
 | [],io,m=>by cases io<;>rfl
 |_::_,[],m=>rfl
 |l::ρ,b::io,m=>by rw [kH,kH,mw ρ io m,List.cons_append]
theorem DM.Wt (P:Program) (f:FuncId) (d:Nat) (xs ts:lA) (m:Mem):DM (fun m k=>iQ P f d xs ts m k ⟨⟩) (fun l=>∃x,x∈xs/\NL x l) m:=by
 rintro k (⟨own,r,h1,h2,h3⟩|⟨ρ,hρ,h⟩|⟨r,new,h1,h2⟩)
 rotate_left 2
 . exact ⟨r,new,h1,fun m' a b k' hk'=>.inr (.inr ⟨r,new,hk',fun m2 c d k2 hk2=>h2 m2 (fun l hl=>(c l hl).trans (a l hl)) (fun l hl=>(d l hl).trans (b l hl)) k2 hk2⟩)⟩
 . obtain ⟨x,new,g1,g2⟩:=DM.res own d r m k h3;exact ⟨x,new,g1,fun m' _ hm' k' hk'=>.inl ⟨own,r,h1,h2,g2 m' (fun _ hl=>hl.elim) hm' k' hk'⟩⟩
 obtain ⟨io,h1,h2⟩:=D1.XP m ρ [] _ h;obtain ⟨args,h3,h4⟩:=D1.U1 ρ xs [] _ h1;obtain ⟨r,io1,hF,hm⟩:=h3;obtain ⟨x,new,g1,g2⟩:=DM.YR _ r (fW ρ io1 m) k hm;refine ⟨x,new++fW ρ io1 [],by rw [List.append_assoc,←mw];exact g1,fun m' hm1 hm' k' hk'=>.inr (.inl ⟨ρ,hρ,?_⟩)⟩;rw [EP _ ρ [] fun l hl=>hm1 l (hρ l hl)];refine h2 _ (h4 _ ⟨r,io1,hF,g2 (fW ρ io1 m') (fun _ hl=>hl.elim) (fun l hl=> ?_) k' (by rw [mw ρ io1 m',←List.append_assoc];exact hk')⟩);have hl:ah new l≠none:=hl;rw [mw ρ io1 m',mw ρ io1 m,dG,dG];have:=hm' l (by show ah (new++fW ρ io1 []) l≠none;rw [dG];split<;>simp_all);rw [this]
theorem DM.TR (P:Program) (f:FuncId) (d:Nat) (xs:lA) (m:Mem):DM (nd P f d xs) (fun l=>∃x,x∈xs/\NL x l) m:=
 DM.pre (G:=fun m k=>dE m k [] xs) (F:=fun ts m k=>iQ P f d xs ts m k ⟨⟩) (D1.trees m xs []) (fun m' hm=>funext fun k=>qq k xs [] fun x hx l hl=>hm l ⟨x,hx,hl⟩) fun ts=>DM.Wt P f d xs ts m
theorem Hr {P:Program} {t:TypeId} {op:BinOp} {a b:AV} {k:AV->Prop} {r r':Prop} (hr:r->r') (h:gG P t op a b k r):gG P t op a b k r':=by
 unfold gG at h ⊢;split at h
 . exact h
 . exact h
 exact hr h
theorem D1.Wu (f:FK) (x y:AV):D1 (lX f x y):=by unfold lX;split<;>first|exact D1.and _ (D1.pure _)|exact D1.pure _|exact D1.no
theorem D1.Wv:∀(fs:List FK) (xs ys:lA) (acc:Bool),D1 fun k=>tX k acc fs xs ys
 | [],xs,ys,acc=>by cases xs<;>cases ys<;>first|exact D1.pure _|exact D1.no
 |f::fs,xs,ys,acc=>by
  cases xs with
  |nil=>cases ys<;>exact D1.no
  |cons x xs=>
   cases ys with
   |nil=>exact D1.no
   |cons y ys=>exact D1.bind (D1.Wu f x y) fun b=>D1.Wv fs xs ys _
theorem D1.Y8 (op:BinOp) (c:Bool):D1 (Q9 op c):=by unfold Q9;split<;>first|exact D1.pure _|exact D1.no
theorem D1.fk (o:Option (List FK)):D1 (Wi o):=by
 cases o with
 |none=>exact D1.no
 |some x=>exact D1.pure x
theorem D1.XR (P:Program) (t:TypeId) (op:BinOp) (kd:TK) (a b:AV):D1 fun k=>gG P t op a b k (k8 op kd a b k):=by
 unfold gG;split
 . exact D1.bind (D1.fk _) fun ks=>D1.bind (D1.Wv ks _ _ true) fun c=>D1.Y8 op c
 . cases qY P t op with
   |none=>exact D1.no
   |some c=>exact D1.pure _
 exact D1.bin _ _ _ _
def pn (P:Program) (c:AV) (d:Nat) (xs:lA) (m:Mem) (k:AV->Mem->Prop):Prop:=match c with
 | .cm f ys=>nd P f d (xs++ys) m k
 |_=>False
@[congr] theorem QQ {P:Program} {c c':AV} {d:Nat} {xs xs':lA} {m:Mem} {k:AV->Mem->Prop} (h:c=c') (h':xs=xs'):pn P c d xs m k=pn P c' d xs' m k:=by rw [h,h']
theorem DM.U2 (P:Program) (c:AV) (d:Nat) (xs:lA) (m:Mem):DM (pn P c d xs) (fun l=>(∃x,x∈xs/\NL x l)\/NL c l) m:=by
 cases c with
 |cm f ys=>
  refine (DM.TR P f d (xs++ys) m).mono fun l hl=> ?_;obtain ⟨x,hx,ae,hv⟩:=hl;rcases List.mem_append.1 hx with hx|hx
  . exact .inl ⟨x,hx,ae,hv⟩
  obtain ⟨i,hi,rfl⟩:=q9 hx;exact .inr ⟨ae,by simp only [an];exact bt hi hv⟩
 |_=>exact DM.no _ _
def cC (P:Program) (d:Nat) (op:Op) (ts:Env) (m:Mem) (k:AV->Mem->Prop):Prop:=
 match op with
 | .call c=>match c.callee,c.args.toList with
   | .value (.func f),xs=>nd P f d (xs.map (ev ts)) m k
   | .value (.tmp t),xs=>pn P (look ts t) d (xs.map (ev ts)) m k
   | .builtin .append,[x,y]=>kE P c.argTypes.toList d (ev ts x) (ev ts y) m k
   |_,_=>iI P d (.call c) ts m k
 | .binOp op t x y _=>dZ (aJ P t) fun ti=>gG P t op (ev ts x) (ev ts y) (fun v=>k v m) (k8 op ti.kind (ev ts x) (ev ts y) fun v=>k v m)
 | .load t x=>dZ (aJ P t) fun ti=>n7 ti.agg ti.size (ev ts x) m k
 | .store t p y=>dZ (aJ P t) fun ti=>kC ti.size (ev ts p) (ev ts y) m fun m'=>k .undef m'
 | .indexAddr t x i=>dZ (aJ P t) fun tt=>wM tt.kind (dZ (aJ P tt.elem) fun ti=>ow ti.sh m (ev ts x) (ev ts i) fun v=>k v m)
 |op=>iI P d op ts m k
theorem Hs {ag:Bool} {n j:Nat} {x:AV} {k k':AV->Prop} (h:∀y,k y->k' y) (hk:dh ag n j x k):dh ag n j x k':=by obtain ⟨y,h1,h2⟩:=D1.part _ _ _ _ _ hk;exact h2 _ (h y h1)
theorem KX {ag:Bool} {n:Nat} {p:AV} {m:Mem} {k:AV->Mem->Prop} (h:n7 ag n p m k):n8 ag n p m k:=by
 cases p with
 |ptr l ae i j=>
  have h0:dR ag n l ae i j (ah m l) m k:=h;show if l<bE then dR ag n l ae i j (ah m l) m k else kB ag n l ae i j (ah m l) m k
  split
  . exact h0
  rename_i hl;generalize ah m l=b at h0;unfold kB;split
  . obtain ⟨h1,h2⟩:=h0;refine ⟨h1,?_⟩;rename_i xs;cases hx:xs[i]? with
    |none=>rw [hx] at h2;exact h2.elim
    |some x=>
     rw [hx] at h2;rw [sy] at h2 ⊢;refine Hs (fun y hy=> ?_) h2;unfold dC at hy;unfold pS;split
     . rename_i hc;rw [if_pos hc] at hy;exact absurd hy.1 hl
     rename_i hc;rw [if_neg hc] at hy;exact hy
  exact h0
 |bq=>exact h
 |_=>exact h.elim
theorem Ht {n:Nat} {p y:AV} {m:Mem} {k:Mem->Prop} (h:kC n p y m k):cB n p y m k:=by
 unfold cB;split
 . rename_i l ae i j l2 v2 i2 n2;have h:dD l ae i j (ah m l) (.ref l2 v2 i2 n2) m n k:=h;unfold mP;split
   . rename_i v xs hb;rw [hb] at h;have:=h.2.1;cases this
   exact h
 exact h
theorem xx {P:Program} {f:FuncId} {d:Nat} {xs:lA} {m:Mem} {k:AV->Mem->Prop} (h:nd P f d xs m k):nN P f d xs m k:=by
 have key:∀(xs acc:lA) (G G':lA->Prop),(∀ts,G ts->G' ts)->dE m G acc xs->dE m G' acc xs:=by intro xs acc G G' hg h;obtain ⟨x,h1,h2⟩:=D1.trees m xs acc G h;exact h2 G' (hg x h1)
 exact key _ _ _ _ (fun ts hx=>by
  rcases hx with ⟨own,r,h1,h2,h3⟩|⟨ρ,_,h⟩|⟨r,new,h1,h2⟩
  rotate_left 2
  . exact .inl (h2 m (fun _ _=>rfl) (fun _ _=>rfl) k h1)
  . exact .inr ⟨own,_,h1,h2,fun _ e=>e▸h3⟩
  refine sI ρ ?_;obtain ⟨io,h1,h2⟩:=D1.XP m ρ [] _ h;obtain ⟨args,h3,h4⟩:=D1.U1 ρ _ [] _ h1;obtain ⟨r,io1,hF,hm⟩:=h3
  exact h2 _ (h4 _ ⟨_,hF,fun r io' ⟨e,e'⟩=>by subst e;subst e';exact hm⟩)) h
theorem ER {P:Program} {c:AV} {d:Nat} {xs:lA} {m:Mem} {k:AV->Mem->Prop} (h:pn P c d xs m k):mX P c d xs m k:=by
 cases c with
 |cm f ys=>exact xx h
 |_=>exact h.elim
theorem xy {P:Program} {d:Nat} {op:Op} {ts:Env} {m:Mem} {k:AV->Mem->Prop} (h:cC P d op ts m k):iI P d op ts m k:=by
 unfold cC at h;split at h
 . rename_i c;split at h
   . rename_i f hc;have:=xx h;unfold iI;simp only [hc];exact this
   . rename_i t hc;have:=ER h;unfold iI;simp only [hc];exact this
   . rename_i x y hc hx;have:=h;unfold iI;simp only [hc,hx];exact this
   exact h
 . obtain ⟨ti,ht,h⟩:=bF h;show dZ _ _;rw [ht];exact Hr (fun h=>Nx h) h
 . obtain ⟨ti,ht,h⟩:=bF h;show dZ _ _;rw [ht];exact KX h
 . obtain ⟨ti,ht,h⟩:=bF h;show dZ _ _;rw [ht];exact GU (Ht h)
 . obtain ⟨tt,htt,h⟩:=bF h;obtain ⟨hks,h⟩:=mZ h;obtain ⟨ti,ht,h⟩:=bF h;show dZ _ _;rw [htt,vL,hks];show dZ _ _;rw [ht];exact Nw h
 exact h
def GI (op:Op):List Operand:=match op with
 | .move _=>[]
 | .assign _=>[]
 | .pick _ _ _=>[]
 | .box _ _=>[]
 | .build _ _=>[]
 | .binOp _ _ _ _ _=>[]
 | .extract _ _=>[]
 | .field _ _ _=>[]
 | .store _ p _=>[p]
 |op=>op.operands.toList
theorem Sa {op:Op} {o:Operand} (h:o∈GI op):o∈op.operands.toList:=by
 unfold GI at h
 split at h<;>first
  |exact h
  |exact absurd h List.not_mem_nil
  |(rw [List.mem_singleton] at h;subst h;simp [Op.operands])
def Reads (op:Op) (ts:Env) (l:Nat):Prop:=∃o,o∈GI op/\NL (ev ts o) l
theorem DM.sl {F:Mem->(AV->Mem->Prop)->Prop} {R:Nat->Prop} {m:Mem} (kd:TK) (h:DM F R m):DM (fun m k=>wM kd (F m k)) R m:=by cases kd<;>first|exact h|exact DM.no _ _
theorem DM.st {F:Mem->(AV->Mem->Prop)->Prop} {R:Nat->Prop} {m:Mem} (kd:TK) (h:DM F R m):DM (fun m k=>V8 kd (F m k)) R m:=by cases kd<;>first|exact h|exact DM.no _ _
theorem DM.ti {F:TI->Mem->(AV->Mem->Prop)->Prop} {R:Nat->Prop} {m:Mem} (o:Option TI) (h:∀ti,DM (F ti) R m):DM (fun m k=>dZ o fun ti=>F ti m k) R m:=DM.EN (D1.ti o) h
theorem DM.Ww {R:Nat->Prop} (d:Nat) (x:AV) (m:Mem):DM (sG d x) R m:=by
 unfold sG;split
 . exact DM.and _ (DM.put d _ fun m' h=>by rw [gh h];exact ⟨rfl,rfl⟩)
 exact DM.no _ _
theorem DM.Wx {R:Nat->Prop} (P:Program) (si ti:TI) (d:Nat) (x:AV) (m:Mem) (h:∀m',jW R m m'->fO P si ti x m'=fO P si ti x m):DM (kF P si ti d x) R m:=by
 unfold kF;split
 . refine DM.ti _ fun ei=> ?_;unfold wS;split
   . exact DM.Ww d x m
   exact DM.no _ _
 exact DM.still (G:=fun m k=>fO P si ti x m k) (D1.Wr P si ti m _) fun m' hm=>h m' hm
theorem DM.or {α:Type} {F G:Mem->(α->Mem->Prop)->Prop} {R:Nat->Prop} {m:Mem} (h:DM F R m) (h':DM G R m):DM (fun m k=>F m k\/G m k) R m:=fun k hk=>by
 rcases hk with hk|hk
 . obtain ⟨x,new,h1,h2⟩:=h k hk;exact ⟨x,new,h1,fun m' a b k' hk'=>.inl (h2 m' a b k' hk')⟩
 obtain ⟨x,new,h1,h2⟩:=h' k hk;exact ⟨x,new,h1,fun m' a b k' hk'=>.inr (h2 m' a b k' hk')⟩
theorem DM.Wy (ti:TI) (d:Nat) (x:AV) (ys:lA) (m:Mem):DM (lq ti d x ys) (NL x) m:=by
 unfold lq;split
 . rename_i l v i n;intro k hk;cases hb:ah m l with
   |none=>simp only [hb] at hk;exact hk.elim
   |some b=>
    simp only [hb] at hk;cases b with
    |row v' sh deep xs=>
     obtain ⟨h1,h2,h3,h4,h5,h6,hk⟩:=hk;refine ⟨.ref l (v+1) 0 (n+ys.length),[(l,.row (v+1) ti.sh false (xs.take n++ys))],hk,fun m' hm _ k' hk'=> ?_⟩;show oo ti l v i n (ah m' l) ys m' k';rw [(hm l (NL.ref _ _ _ _)).trans hb];exact ⟨h1,h2,h3,h4,h5,h6,hk'⟩
    |_=>exact hk.elim
 exact DM.and _ (DM.and _ (DM.put d _ fun m' h=>by rw [gh h];exact ⟨rfl,rfl⟩))
theorem DM.XS (ti:TI) (d:Nat) (x y:AV) (m:Mem):DM (lu ti d x y) (fun l=>NL x l\/NL y l) m:=by
 cases y with
 |ref l v i n=>
  intro k hk;have hk1:jg ti d x l v i n (ah m l) m k:=hk;have go:∀m',jW (fun l'=>NL x l'\/NL (.ref l v i n) l') m m'->ah m' l=ah m l:=fun m' hm=>hm l (.inr (NL.ref _ _ _ _));unfold jg at hk1;split at hk1
  . rename_i v' sh' zs hb;obtain ⟨z,new,h1,h2⟩:=DM.or (DM.app ti d x (.ref l v i n) m) (DM.and (v'=v) (DM.and (sh'=ti.sh) (DM.and (i+n<=zs.length) (DM.and (ti.bytes<=65536/\0<ti.size/\fits ti.sh ti.zero) ((DM.Wy ti d x ((zs.drop i).take n) m).mono fun l hl=>.inl hl))))) k hk1;refine ⟨z,new,h1,fun m' a b k' hk'=> ?_⟩;show jg ti d x l v i n (ah m' l) m' k';rw [go m' a,hb];exact h2 m' a b k' hk'
  rename_i hb;obtain ⟨z,new,h1,h2⟩:=DM.app ti d x (.ref l v i n) m k hk1;refine ⟨z,new,h1,fun m' a b k' hk'=> ?_⟩;show jg ti d x l v i n (ah m' l) m' k';rw [go m' a];have:=h2 m' a b k' hk';unfold jg;split
  . rename_i hb2;exact absurd hb2 (hb _ _ _)
  exact this
 |arr sh xs=>
  cases hb:bn xs with
  |true=>
   have e:lu ti d x (.arr sh xs)=vg ti d x (.arr sh xs):=by funext m k;show rm ti d x sh xs (bn xs) m k=_;rw [hb];rfl
   rw [e];exact DM.app ti d x _ m
  |false=>
   have e:lu ti d x (.arr sh xs)=fun m k=>sh=ti.sh/\(ti.bytes<=65536/\0<ti.size/\fits ti.sh ti.zero)/\lq ti d x xs m k:=by funext m k;show rm ti d x sh xs (bn xs) m k=_;rw [hb];rfl
   rw [e];exact DM.and _ (DM.and _ ((DM.Wy ti d x xs m).mono fun l hl=>.inl hl))
 |_=>exact DM.app ti d x _ m
theorem DM.Wz (P:Program) (tys:List TypeId) (d:Nat) (x y:AV) (m:Mem):DM (kE P tys d x y) (fun l=>NL x l\/NL y l) m:=by
 unfold kE;split
 . refine DM.EN (F:=fun tt m k=>wM tt.kind (dZ (aJ P _) fun tt'=>wM tt'.kind (dZ (aJ P tt.elem) fun ti=>lu ti d x y m k))) (D1.ti _) fun tt=> ?_;have hsl:∀(kd:TK) {F:Mem->(AV->Mem->Prop)->Prop} {R:Nat->Prop},DM F R m->DM (fun m k=>wM kd (F m k)) R m:=by
    intro kd F R h;cases kd<;>first|exact h|exact DM.no _ _
   refine hsl _ (DM.EN (F:=fun tt' m k=>wM tt'.kind (dZ (aJ P tt.elem) fun ti=>lu ti d x y m k)) (D1.ti _) fun tt'=> ?_);exact hsl _ (DM.EN (F:=fun ti m k=>lu ti d x y m k) (D1.ti _) fun ti=>DM.XS ti d x y m)
 exact DM.no _ _
theorem DM.WA {R:Nat->Prop} (x:AV) (m:Mem) (hR:∀l,NL x l->R l):DM (ml x) R m:=by
 unfold ml;split
 . rename_i l v i n;intro k hk;cases hb:ah m l with
   |none=>rw [hb] at hk;exact hk.elim
   |some b=>
    rw [hb] at hk;cases b with
    |row v' sh d ys=>
     obtain ⟨h1,h2,h3,h4⟩:=hk;refine ⟨.arr sh ((ys.drop i).take n),[(l,.gone v)],h4,fun m' hm _ k' hk'=> ?_⟩;show ru l v i n (ah m' l) m' k';rw [hm l (hR l (NL.ref _ _ _ _)),hb];exact ⟨h1,h2,h3,hk'⟩
    |_=>exact hk.elim
 exact DM.ret _
theorem DM.map {α β:Type} {F:Mem->(α->Mem->Prop)->Prop} {R:Nat->Prop} {m:Mem} (f:α->β) (h:DM F R m):DM (fun m k=>F m fun x m'=>k (f x) m') R m:=fun k hk=>
 have ⟨x,new,h1,h2⟩:=h _ hk
 ⟨f x,new,h1,fun m' hm hm' k' hk'=>h2 m' hm hm' _ hk'⟩
theorem DM.TS {R:Nat->Prop}:∀(xs acc:lA) (m:Mem),(∀x,x∈xs->∀l,NL x l->R l)->DM (fun m k=>mV k acc m xs) R m
 | [],acc,m,_=>DM.ret acc.reverse
 |x::r,acc,m,hR=>DM.bind (one:=ml x) (rest:=fun y m k=>mV k (y::acc) m r) (DM.WA x m (hR x (q12 ..))) fun y new=>DM.TS r (y::acc) (new++m) fun x hx=>hR x (q11 _ hx)
theorem DM.XT {R:Nat->Prop} (x:AV) (m:Mem) (hR:∀l,NL x l->R l):DM (lx x) R m:=by
 cases x with
 |agg xs=>exact DM.map AV.agg (DM.TS xs [] m fun x hx l ⟨ae,hl⟩=>hR l ⟨ae,by
   obtain ⟨i,hi,rfl⟩:=q9 hx
   simp only [an];exact bt hi hl⟩)
 |_=>exact DM.WA _ m hR
theorem DM.WB {R:Nat->Prop}:∀(ps acc:List (Nat × AV)) (m:Mem),(∀p,p∈ps->∀l,NL p.2 l->R l)->DM (fun m k=>pX k acc m ps) R m
 | [],acc,m,_=>DM.ret acc.reverse
 |(i,x)::r,acc,m,hR=>DM.bind (one:=lx x) (rest:=fun y m k=>pX k ((i,y)::acc) m r) (DM.XT x m (hR (i,x) (q12 ..))) fun y new=>DM.WB r ((i,y)::acc) (new++m) fun p hp=>hR p (q11 _ hp)
theorem DM.ES {R:Nat->Prop} (ti:TI) (d n:Nat) (ps:List (Nat × AV)) (m:Mem) (hR:∀p,p∈ps->∀l,NL p.2 l->R l):DM (gC ti d n ps) R m:=
 DM.bind (one:=fun m k=>pX k [] m ps) (rest:=fun ps m k=>ir ti d n ps m k) (DM.WB ps [] m hR) fun ps new=>DM.buildSlice ti d n ps (new++m)
theorem Oy (P:Program) (d:Nat) (op:Op) (ts:Env) (m:Mem):DM (cC P d op ts) (Reads op ts) m:=by
 have rd:∀(o:Operand),o∈GI op->∀l,NL (ev ts o) l->Reads op ts l:=fun o h l hl=>⟨o,h,hl⟩;have lk:∀(o:Operand),o∈GI op->∀m',jW (Reads op ts) m m'->jW (NL (ev ts o)) m m':=fun o h m' hm l hl=>hm l (rd o h l hl);have nomem:∀{G:(AV->Prop)->Prop},D1 G->DM (fun m k=>G fun v=>k v m) (Reads op ts) m:=fun {G} h=>DM.still (G:=fun _=>G) h fun _ _=>rfl;have other:(∀t x i,op≠ .indexAddr t x i)->(∀c f,op= .call c->c.callee≠ .value (.func f))->(∀c t,op= .call c->c.callee≠ .value (.tmp t))->(∀o t x y t2,op≠ .binOp o t x y t2)->(∀t x,op≠ .load t x)->(∀t p y,op≠ .store t p y)->(∀c x y,op= .call c->c.callee= .builtin .append->c.args.toList=[x,y]->False)->DM (iI P d op ts) (Reads op ts) m:=by
  intro hni hno hnt hnb hnl hns hna;cases op with
  |move x=>exact DM.ret _
  |makeFunc fn first caps=>cases fn<;>first|exact DM.and _ (DM.ret _)|exact DM.no _ _
  |assign x=>exact DM.ret _
  |pick c a b=>exact nomem (D1.pick _ _ _)
  |alloc t=>exact DM.ti _ fun ti=>DM.box d ti.zero m
  |box t x=>exact DM.box d _ m
  |build t parts=>exact DM.ti _ fun ti=>DM.st _ (nomem (D1.build ti _))
  |buildSlice t n parts=>
   refine DM.ti _ fun tt=>DM.sl _ (DM.ti _ fun ti=>DM.ES ti d n _ m fun p hp l hl=> ?_);obtain ⟨q,hq,rfl⟩:=q13.1 hp;exact ⟨q.2,by show q.2∈(Op.buildSlice t n parts).operands.toList;simp only [Op.operands];exact q13.2 ⟨q,hq,rfl⟩,hl⟩
  |load t x=>exact absurd rfl (hnl _ _)
  |store t p y=>exact absurd rfl (hns _ _ _)
  |nilCheck x=>exact DM.still (D1.nil m _) fun m' hm=>Oq (lk x (by simp [GI,Op.operands]) m' hm)
  |binOp op t x y t2=>exact absurd rfl (hnb _ _ _ _ _)
  |unOp op t x=>cases op<;>first|exact nomem (D1.not _)|exact nomem (D1.neg _)|exact DM.no _ _
  |convert s t x=>exact DM.ti _ fun si=>DM.ti _ fun ti=>DM.Wx P si ti d _ m fun m' hm=>Hq (lk x (by simp [GI,Op.operands]) m' hm)
  |makeSlice t l c=>exact DM.ti _ fun tt=>DM.sl _ (DM.ti _ fun ti=>DM.make ti d _ _ m)
  |fieldAddr t x f=>exact DM.ti _ fun ti=>DM.EN (F:=fun fd m k=>0<fd.2.1/\hU fd.1 m (ev ts x) fun v=>k v m) (D1.XL _) fun fd=>DM.and _ (DM.still (D1.field _ m _) fun m' hm=>Ho _ (lk x (by simp [GI,Op.operands]) m' hm))
  |field t x f=>exact DM.ti _ fun ti=>DM.EN (F:=fun fd m k=>ql fd.2.2 fd.2.1 fd.1 (ev ts x) fun v=>k v m) (D1.XL _) fun fd=>nomem (D1.Wm _ _ _ _)
  |indexAddr t x i=>exact absurd rfl (hni _ _ _)
  |index t x i=>exact DM.ti _ fun tt=>DM.and _ (nomem (D1.index _ _))
  |extract x i=>exact nomem (D1.aX _ _)
  |slice t x lo hi mx=>
   cases mx with
   |none=>exact DM.ti _ fun tt=>DM.still (G:=fun m k=>mW P tt (ev ts x) (lo.map (ev ts)) (hi.map (ev ts)) m k) (D1.Y7 _ _ _ _ _ m) fun m' hm=>Ov _ _ (lk x (by simp [GI,Op.operands]) m' hm)
   |some mx=>
    cases lo with
    |none=>exact DM.and _ (DM.ti _ fun tt=>DM.sl _ (DM.ti _ fun _=>DM.still (G:=fun m k=>ju m (ev ts x) k) (D1.U0 m _) fun m' hm=>EM (lk x (by simp [GI,Op.operands]) m' hm)))
    |some lo=>exact DM.no _ _
  |call c=>
   obtain ⟨callee,args,tys⟩:=c;have hin:∀o,o∈args.toList->o∈GI (Op.call ⟨callee,args,tys⟩):=fun o ho=>by show o∈(Op.call ⟨callee,args,tys⟩).operands.toList;simp only [Op.operands,Call.operands,Array.toList_append,List.mem_append];exact .inr ho
   show DM (fun m k=>match callee,args.toList with
    | .builtin .len,[x]=>match tys.toList with|t::_=>dZ (aJ P t) fun ti=>mN ti.kind m (ev ts x) fun v=>k v m| []=>False
    | .builtin .max,[x,y]=>y5 (ev ts x) (ev ts y) fun v=>k v m
    | .builtin .min,[x,y]=>mL (ev ts x) (ev ts y) fun v=>k v m
    | .builtin .min,[x,y,z]=>mL (ev ts x) (ev ts y) fun u=>mL u (ev ts z) fun v=>k v m
    | .builtin .append,[x,y]=>kE P tys.toList d (ev ts x) (ev ts y) m k
    | .value (.func f),xs=>nN P f d (xs.map (ev ts)) m k
    | .value (.tmp t),xs=>mX P (look ts t) d (xs.map (ev ts)) m k
    |_,_=>False) (Reads (.call ⟨callee,args,tys⟩) ts) m
   generalize hl0:args.toList=l at hin;split
   . rename_i x;split
     . exact DM.ti _ fun ti=>DM.still (G:=fun m k=>mN ti.kind m (ev ts x) k) (D1.len _ m _) fun m' hm=>Ot _ (lk x (hin x (by simp)) m' hm)
     exact DM.no _ _
   . exact nomem (D1.max _ _)
   . exact nomem (D1.min _ _)
   . exact nomem (D1.bind (D1.min _ _) fun u=>D1.min u _)
   . rename_i x y;exact (hna _ x y rfl rfl hl0).elim
   . exact absurd rfl (hno _ _ rfl)
   . exact absurd rfl (hnt _ _ rfl)
   exact DM.no _ _
  |_=>exact DM.no _ _
 cases op with
 |call c=>
  by_cases hf:∃f,c.callee= .value (.func f)
  . obtain ⟨f,hf⟩:=hf;have:cC P d (.call c) ts=nd P f d (c.args.toList.map (ev ts)):=by
     funext m k;simp only [cC,hf]
    rw [this];refine (DM.TR P f d _ m).mono fun l hl=> ?_;obtain ⟨x,hx,hl⟩:=hl;obtain ⟨o,ho,rfl⟩:=q13.1 hx;exact ⟨o,by show o∈(Op.call c).operands.toList;simp only [Op.operands,Call.operands,Array.toList_append,List.mem_append];exact .inr ho,hl⟩
  by_cases hft:∃t,c.callee= .value (.tmp t)
  . obtain ⟨t,hft⟩:=hft;have:cC P d (.call c) ts=pn P (look ts t) d (c.args.toList.map (ev ts)):=by
     funext m k;simp only [cC,hft]
    rw [this];refine (DM.U2 P (look ts t) d _ m).mono fun l hl=> ?_;rcases hl with ⟨x,hx,hl⟩|hl
    . obtain ⟨o,ho,rfl⟩:=q13.1 hx;exact ⟨o,by show o∈(Op.call c).operands.toList;simp only [Op.operands,Call.operands,Array.toList_append,List.mem_append];exact .inr ho,hl⟩
    exact ⟨.tmp t,by show Operand.tmp t∈(Op.call c).operands.toList;simp [Op.operands,Call.operands,hft],hl⟩
  by_cases hfa:∃x y,c.callee= .builtin .append/\c.args.toList=[x,y]
  . obtain ⟨x,y,hc,hx⟩:=hfa;have:cC P d (.call c) ts=kE P c.argTypes.toList d (ev ts x) (ev ts y):=by
     funext m k;simp only [cC,hc,hx]
    rw [this];have hin:∀o,o∈c.args.toList->o∈GI (Op.call c):=fun o ho=>by show o∈(Op.call c).operands.toList;simp only [Op.operands,Call.operands,Array.toList_append,List.mem_append];exact .inr ho
    exact (DM.Wz P _ d _ _ m).mono fun l hl=>hl.elim (fun hl=>⟨x,hin x (by rw [hx];simp),hl⟩) fun hl=>⟨y,hin y (by rw [hx];simp),hl⟩
  have:cC P d (.call c) ts=iI P d (.call c) ts:=by
   funext m k;simp only [cC];split
   . rename_i f hc;exact absurd ⟨f,hc⟩ hf
   . rename_i f hc;exact absurd ⟨f,hc⟩ hft
   . rename_i x y hc hx;exact absurd ⟨x,y,hc,hx⟩ hfa
   rfl
  rw [this];exact other (fun _ _ _ e=>(by cases e)) (fun c' f e hc=>hf ⟨f,by injection e with e;rw [e];exact hc⟩) (fun c' f e hc=>hft ⟨f,by injection e with e;rw [e];exact hc⟩) (fun _ _ _ _ _ e=>(by cases e)) (fun _ _ e=>(by cases e)) (fun _ _ _ e=>(by cases e)) (fun c' x y e hc hx=>hfa ⟨x,y,by injection e with e;rw [e];exact hc,by injection e with e;rw [e];exact hx⟩)
 |binOp op t x y t2=>exact DM.ti _ fun ti=>nomem (G:=fun k=>gG P t op (ev ts x) (ev ts y) k (k8 op ti.kind (ev ts x) (ev ts y) k)) (D1.XR P t op ti.kind (ev ts x) (ev ts y))
 |load t x=>exact DM.ti _ fun ti=>(DM.load ti.agg ti.size (ev ts x) m).mono (rd x (by simp [GI,Op.operands]))
 |store t p y=>exact DM.ti _ fun ti=>(DM.store ti.size (ev ts p) (ev ts y) m).mono (rd p (by simp [GI]))
 |indexAddr t x i=>exact DM.ti _ fun tt=>DM.sl _ (DM.ti _ fun ti=>DM.still (G:=fun m k=>ow ti.sh m (ev ts x) (ev ts i) k) (D1.idx _ m _ _) fun m' hm=>Ou _ _ (lk x (by simp [GI,Op.operands]) m' hm))
 |_=>exact other (fun _ _ _ e=>(by cases e)) (fun _ _ e=>(by cases e)) (fun _ _ e=>(by cases e)) (fun _ _ _ _ _ e=>(by cases e)) (fun _ _ e=>(by cases e)) (fun _ _ _ e=>(by cases e)) (fun _ _ _ e=>(by cases e))
theorem Sb {P:Program} {d:Nat} {op:Op} {ts ts':Env} (h:∀o,o∈op.operands.toList->ev ts' o=ev ts o) (m:Mem) (k:AV->Mem->Prop):cC P d op ts' m k=cC P d op ts m k:=by
 have parts:∀(ps:Array (Nat × Operand)),(∀o,o∈(ps.toList.map (·.2))->ev ts' o=ev ts o)->(ps.toList.map fun p=>(p.1,ev ts' p.2))=ps.toList.map fun p=>(p.1,ev ts p.2):=by intro ps hp;refine List.map_congr_left fun p hpp=> ?_;rw [hp p.2 (q13.2 ⟨p,hpp,rfl⟩)]
 have optm:∀(lo:Option Operand),(∀o,o∈lo.toList->ev ts' o=ev ts o)->lo.map (ev ts')=lo.map (ev ts):=by
  intro lo hp;cases lo with
  |none=>rfl
  |some o=>simp [hp o (by simp)]
 cases op with
 |call c=>
  obtain ⟨callee,args,tys⟩:=c;have hin:∀o,o∈args.toList->ev ts' o=ev ts o:=fun o ho=>h o (by simp only [Op.operands,Call.operands,Array.toList_append,List.mem_append];exact .inr ho);have hcl:∀t,callee= .value (.tmp t)->look ts' t=look ts t:=fun t e=>h (.tmp t) (by subst e;simp [Op.operands,Call.operands]);simp only [cC,iI];generalize args.toList=l at hin;split
  . rename_i f xs;rw [List.map_congr_left hin]
  . rw [List.map_congr_left hin,hcl _ rfl]
  . simp only [hin _ (q12 ..),hin _ (q11 _ (q12 ..))]
  split<;>first
   |rfl
   |(rename_i hx _;exact (hx _ rfl).elim)
   |(rename_i hx _ _;exact (hx _ rfl).elim)
   |simp only [hin _ (q12 ..),hin _ (q11 _ (q12 ..)),hin _ (q11 _ (q11 _ (q12 ..)))]
   |simp only [hin _ (q12 ..),hin _ (q11 _ (q12 ..))]
   |simp only [hin _ (q12 ..)]
 |makeFunc fn first caps=>
  cases fn<;>first
   |rfl
   |(simp only [cC,iI];rw [List.map_congr_left (fun o ho=>h o (by simp [Op.operands];exact .inr (by simpa using ho)))])
 |build t ps=>simp only [cC,iI];rw [parts ps fun o ho=>h o (by simpa [Op.operands] using ho)]
 |buildSlice t n ps=>simp only [cC,iI];rw [parts ps fun o ho=>h o (by simpa [Op.operands] using ho)]
 |slice t x lo hi mx=>
  cases mx with
  |none=>simp only [cC,iI];rw [h x (by simp [Op.operands]),optm lo fun o ho=>h o (by simp only [Op.operands];simp at ho ⊢;simp [ho]),optm hi fun o ho=>h o (by simp only [Op.operands];simp at ho ⊢;simp [ho])]
  |some mx=>
   cases lo with
   |none=>simp only [cC,iI];rw [h x (by simp [Op.operands])]
   |some lo=>rfl
 |unOp op t x=>cases op<;>simp only [cC,iI]<;>rw [h x (by simp [Op.operands])]
 |pick c x y=>simp only [cC,iI];rw [h c (by simp [Op.operands]),h x (by simp [Op.operands]),h y (by simp [Op.operands])]
 |store t x y=>simp only [cC];rw [h x (by simp [Op.operands]),h y (by simp [Op.operands])]
 |binOp op t x y t2=>simp only [cC];rw [h x (by simp [Op.operands]),h y (by simp [Op.operands])]
 |makeSlice t x y=>simp only [cC,iI];rw [h x (by simp [Op.operands]),h y (by simp [Op.operands])]
 |indexAddr t x y=>simp only [cC];rw [h x (by simp [Op.operands]),h y (by simp [Op.operands])]
 |index t x y=>simp only [cC,iI];rw [h x (by simp [Op.operands]),h y (by simp [Op.operands])]
 |move x=>simp only [cC,iI];rw [h x (by simp [Op.operands])]
 |assign x=>simp only [cC,iI];rw [h x (by simp [Op.operands])]
 |box t x=>simp only [cC,iI];rw [h x (by simp [Op.operands])]
 |load t x=>simp only [cC];rw [h x (by simp [Op.operands])]
 |nilCheck x=>simp only [cC,iI];rw [h x (by simp [Op.operands])]
 |convert s t x=>simp only [cC,iI];rw [h x (by simp [Op.operands])]
 |fieldAddr t x f=>simp only [cC,iI];rw [h x (by simp [Op.operands])]
 |field t x f=>simp only [cC,iI];rw [h x (by simp [Op.operands])]
 |extract x i=>simp only [cC,iI];rw [h x (by simp [Op.operands])]
 |_=>rfl
structure Rec where
 x:AV
 new:Mem
def cM (ops:List Oper) (o:Oper) (ts:Env):Option Bool:=match o.guard with
 |none=>some true
 |some (j,w)=>match look ts (jG ops j) with
  | .val (.bool c)=>some (c==w)
  | .aX []=>some false
  |_=>none
def tR (ops:List Oper) (o:Oper):lN:=(o.op.operands.toList.filterMap fun| .tmp t=>some t|_=>none)++(match o.guard with|some (j,_)=>[jG ops j]|none=>[])
def vp (op:Op) (ts:Env):lN:=(GI op).flatMap fun o=>(an (ev ts o)).map (·.1)
def YA (P:Program) (ops:List Oper) (o:Oper) (q:Rec) (rd:lN) (ts:Env) (m:Mem):Prop:=
 (cM ops o ts=some true/\(∀l,l∈vp o.op ts->l∈rd)/\∀m',(∀l,l∈vp o.op ts->ah m' l=ah m l)->(∀l,l∈q.new.map (·.1)->ah m' l=ah m l)->∀k,k q.x (q.new++m')->cC P (o.dst.getD 0) o.op ts m' k)∨
 (cM ops o ts=some false/\q.x= .aX []/\q.new=[])
theorem Hu {ts ts':Env} {o:Operand} (h:∀t,o= .tmp t->look ts' t=look ts t):ev ts' o=ev ts o:=by
 cases o with
 |tmp t=>exact h t rfl
 |_=>rfl
theorem KY {ops:List Oper} {o:Oper} {ts ts':Env} (h:∀t,t∈tR ops o->look ts' t=look ts t):∀x,x∈o.op.operands.toList->ev ts' x=ev ts x:=fun x hx=>
 Hu fun t ht=>h t (by
  subst ht;unfold tR
  exact List.mem_append_left _ (List.mem_filterMap.2 ⟨_,hx,rfl⟩))
theorem uC {ops:List Oper} {o:Oper} {ts ts':Env} (h:∀t,t∈tR ops o->look ts' t=look ts t):cM ops o ts'=cM ops o ts:=by
 unfold cM;split
 . rfl
 rename_i j w hg;rw [h (jG ops j) (by unfold tR;rw [hg];exact List.mem_append_right _ (List.mem_singleton.2 rfl))]
theorem YA.local {P:Program} {ops:List Oper} {o:Oper} {q:Rec} {rd:lN} {ts ts':Env} {m m':Mem} (h:YA P ops o q rd ts m) (ht:∀t,t∈tR ops o->look ts' t=look ts t)
 (hr:∀l,l∈rd->ah m' l=ah m l) (hn:∀l,l∈q.new.map (·.1)->ah m' l=ah m l):YA P ops o q rd ts' m':=by
 have hev:=KY ht;have hrd:vp o.op ts'=vp o.op ts:=by unfold vp;rw [List.flatMap_def,List.flatMap_def,List.map_congr_left fun x hx=>by rw [hev x (Sa hx)]]
 rcases h with ⟨h1,h2,h3⟩|⟨h1,h2,h3⟩
 . refine .inl ⟨(uC ht).trans h1,fun l hl=>h2 l (hrd▸hl),fun m'' hm hm' k hk=> ?_⟩;rw [Sb hev];exact h3 m'' (fun l hl=>(hm l (hrd▸hl)).trans (hr l (h2 l hl))) (fun l hl=>(hm' l hl).trans (hn l hl)) k hk
 exact .inr ⟨(uC ht).trans h1,h2,h3⟩
def dv (os:Nat->Oper) (qs:Nat->Rec) (D:Nat->Bool) (ts:Env) (m:Mem):Nat->Env × Mem
 |0=>(ts,m)
 |i+1=>if D i then (mn (os i).dst (qs i).x (dv os qs D ts m i).1,(qs i).new++(dv os qs D ts m i).2) else dv os qs D ts m i
section
variable {os:Nat->Oper} {qs:Nat->Rec} {D D':Nat->Bool} {ts:Env} {m:Mem}
theorem pq (d:Option Nat) (x:AV) (ts:Env) (t:Nat):look (mn d x ts) t=if d=some t then x else look ts t:=by
 cases d with
 |none=>simp [mn]
 |some d=>simp [mn,cP]
theorem kt {new m:Mem} {l:Nat} (h:l∉new.map (·.1)):ah (new++m) l=ah m l:=by
 induction new with
 |nil=>rfl
 |cons p r ih=>
  obtain ⟨k,v⟩:=p;simp only [List.map_cons,q10,not_or] at h;rw [List.cons_append,aw,if_neg (fun e=>h.1 e.symm),ih h.2]
theorem rP {new m m':Mem} {l:Nat} (h:l∈new.map (·.1)):ah (new++m) l=ah (new++m') l:=by
 induction new with
 |nil=>cases h
 |cons p r ih=>
  obtain ⟨k,v⟩:=p;simp only [List.cons_append,aw];by_cases e:k=l
  . simp [e]
  simp only [if_neg e];exact ih (by simp only [List.map_cons,q10] at h;exact h.resolve_left fun hh=>e hh.symm)
theorem xz {t:Nat}:∀(hi:Nat) (lo:Nat),lo<=hi->(∀i,lo<=i->i<hi->D i≠D' i->(os i).dst≠some t)->look (dv os qs D ts m lo).1 t=look (dv os qs D' ts m lo).1 t→
 look (dv os qs D ts m hi).1 t=look (dv os qs D' ts m hi).1 t
 |0,lo,hl,_,h=>by rw [show lo=0 by omega] at h;exact h
 |hi+1,lo,hl,hd,h=>by
  by_cases e:lo=hi+1
  . subst e;exact h
  have ih:=xz hi lo (by omega) (fun i h1 h2=>hd i h1 (by omega)) h;have hne:=hd hi (by omega) (by omega);simp only [dv];cases h1:D hi<;>cases h2:D' hi<;>simp only [q3,if_true,if_false]<;>(try simp only [pq])
  . exact ih
  . rw [if_neg (hne (by simp [h1,h2]))];exact ih
  . rw [if_neg (hne (by simp [h1,h2]))];exact ih
  rw [ih]
theorem pr {l:Nat}:∀(hi:Nat) (lo:Nat),lo<=hi->(∀i,lo<=i->i<hi->D i≠D' i->l∉(qs i).new.map (·.1))->ah (dv os qs D ts m lo).2 l=ah (dv os qs D' ts m lo).2 l→
 ah (dv os qs D ts m hi).2 l=ah (dv os qs D' ts m hi).2 l
 |0,lo,hl,_,h=>by rw [show lo=0 by omega] at h;exact h
 |hi+1,lo,hl,hd,h=>by
  by_cases e:lo=hi+1
  . subst e;exact h
  have ih:=pr hi lo (by omega) (fun i h1 h2=>hd i h1 (by omega)) h;have hne:=hd hi (by omega) (by omega);simp only [dv];cases h1:D hi<;>cases h2:D' hi<;>simp only [q3,if_true,if_false]
  . exact ih
  . rw [kt (hne (by simp [h1,h2]))];exact ih
  . rw [kt (hne (by simp [h1,h2]))];exact ih
  by_cases hl:l∈(qs hi).new.map (·.1)
  . exact rP hl
  rw [kt hl,kt hl];exact ih
theorem kJ {j:Nat}:∀(i:Nat),i<=j->(∀q,q<j->D q=D' q)->dv os qs D ts m i=dv os qs D' ts m i
 |0,_,_=>rfl
 |i+1,hi,h=>by simp only [dv];rw [kJ i (by omega) h,h i (by omega)]
theorem my {j:Nat} (h:∀q,j<=q->D q=false):∀(i:Nat),j<=i->dv os qs D ts m i=dv os qs D ts m j
 |0,hi=>by rw [show j=0 by omega]
 |i+1,hi=>by
  by_cases e:j=i+1
  . rw [e]
  simp only [dv];rw [h i (by omega)];simpa using my h i (by omega)
end
def ins (a xs:lN):lN:=xs.foldl (fun a x=>if a.contains x then a else x::a) a
theorem Jw {x:Nat}:∀(xs a:lN),x∈ins a xs->x∈a\/x∈xs
 | [],a,h=>.inl h
 |y::r,a,h=>by
  simp only [ins,List.foldl_cons] at h;rcases Jw r _ h with h|h
  . split at h
    . exact .inl h
    rcases q10.1 h with rfl|h
    . exact .inr (q12 ..)
    exact .inl h
  exact .inr (q11 _ h)
def iw (o:Oper):lN:=(o.after.toList.filter (Region.binds .any)).map (·.on)
def TT (acc:List lN) (o:Oper):lN:=(iw o).foldl (fun a i=>ins a (i::acc.getD i [])) []
theorem Bd {x:Nat} {acc:List lN}:∀(ps a:lN),x∈ps.foldl (fun a i=>ins a (i::acc.getD i [])) a->x∈a\/∃i,i∈ps/\(x=i\/x∈acc.getD i [])
 | [],a,h=>.inl h
 |p::r,a,h=>by
  rw [List.foldl_cons] at h;rcases Bd r _ h with h|⟨i,hi,h⟩
  . rcases Jw _ _ h with h|h
    . exact .inl h
    exact .inr ⟨p,q12 ..,q10.1 h⟩
  exact .inr ⟨i,q11 _ hi,h⟩
def xA:List Oper->List lN->List lN
 | [],acc=>acc
 |o::r,acc=>xA r (acc++[TT acc o])
def ic (ops:List Oper) (D:Nat->Bool):Prop:=∀j o,ops[j]? =some o->D j=true->∀i,i∈iw o->D i=true
theorem jy {ops:List Oper} {D:Nat->Bool} (hD:ic ops D):∀(l:List Oper) (acc:List lN),ops.drop acc.length=l->(∀j x,x∈acc.getD j []->D j=true->D x=true)→
 ∀j x,x∈(xA l acc).getD j []->D j=true->D x=true
 | [],acc,_,h=>h
 |o::r,acc,hl,h=>by
  have hoi:ops[acc.length]? =some o:=by have:=congrArg (·[0]?) hl;simpa using this
  refine jy hD r (acc++[TT acc o]) ?_ ?_
  . have:=congrArg List.tail hl;simpa using this
  intro j x hx hj;by_cases e:j<acc.length
  . refine h j x ?_ hj
    rwa [q5,List.getElem?_append_left e,←q5] at hx
  by_cases e2:j=acc.length
  . subst e2;rw [q5,List.getElem?_append_right (q16 _)] at hx;simp only [Nat.sub_self,List.getElem?_cons_zero,Option.getD_some] at hx;rcases Bd _ _ hx with hx|⟨i,hi,hx⟩
    . cases hx
    have h1:=hD _ o hoi hj i hi;rcases hx with rfl|hx
    . exact h1
    exact h i x hx h1
  rw [q5,q7 (by simp;omega)] at hx;cases hx
def Hv (ops:List Oper) (oi oj:Oper) (ti tj:lN × lN):Bool:=
 (match oi.dst with|some d=> !(tR ops oj).contains d&&oj.dst != some d|none=>true)&&(match oj.dst with|some d=> !(tR ops oi).contains d|none=>true)&&
 ti.2.all (fun l=> !tj.1.contains l&& !tj.2.contains l)&&tj.2.all (fun l=> !ti.1.contains l)
def uD (ops:List Oper):Bool:=(List.range ops.length).all fun i=>match ops[i]? with|some o=>(iw o).all fun p=>decide (p<i)|none=>true
def mz (ops:List Oper) (tr:List (lN × lN)):Bool:=
 uD ops&&(List.range ops.length).all fun j=>(List.range j).all fun i=>((xA ops []).getD j []).contains i||
  match ops[i]?,ops[j]?,tr[i]?,tr[j]? with
  |some oi,some oj,some ti,some tj=>Hv ops oi oj ti tj
  |_,_,_,_=>false
structure Cu (ops:List Oper) (oi oj:Oper) (ri rj wi wj:lN):Prop where
 t1:∀d,oi.dst=some d->d∉tR ops oj
 t2:∀d,oj.dst=some d->d∉tR ops oi
 t3:∀d,oi.dst=some d->oj.dst≠some d
 l1:∀l,l∈wi->l∉rj
 l2:∀l,l∈wj->l∉ri
 l3:∀l,l∈wi->l∉wj
theorem Hw {ops:List Oper} {oi oj:Oper} {ti tj:lN × lN} (h:Hv ops oi oj ti tj=true):Cu ops oi oj ti.1 tj.1 ti.2 tj.2:=by
 simp only [Hv,Bool.and_eq_true,List.all_eq_true,Bool.not_eq_true',List.contains_eq_mem,decide_eq_false_iff_not] at h;obtain ⟨⟨⟨h1,h2⟩,h3⟩,h4⟩:=h;refine ⟨fun d hd=> ?_,fun d hd=> ?_,fun d hd=> ?_,fun l hl=>(h3 l hl).1,fun l hl=>h4 l hl,fun l hl=>(h3 l hl).2⟩
 . rw [hd] at h1;simp at h1;exact h1.1
 . rw [hd] at h2;simp at h2;exact h2
 rw [hd] at h1;simp at h1;exact h1.2
theorem Be {ops:List Oper} {tr:List (lN × lN)} (h:mz ops tr=true) {D:Nat->Bool} (hD:ic ops D) {i j:Nat} (hij:i<j) {oi oj:Oper} {ti tj:lN × lN}
 (hi:ops[i]? =some oi) (hj:ops[j]? =some oj) (h1:tr[i]? =some ti) (h2:tr[j]? =some tj) (hd:¬(D j=true->D i=true)):Cu ops oi oj ti.1 tj.1 ti.2 tj.2:=by
 have hjl:j<ops.length:=(q8.1 hj).1;simp only [mz,Bool.and_eq_true,List.all_eq_true,List.mem_range,Bool.or_eq_true,List.contains_eq_mem,decide_eq_true_eq] at h;rcases h.2 j hjl i hij with hh|hh
 . exact absurd (jy hD ops [] rfl (fun j x hx=>by simp at hx) j i hh) hd
 rw [hi,hj,h1,h2] at hh;exact Hw hh
section
variable {P:Program} {B:eE} {N:Nat} {φ:Nat->LS} {fp:Nat->lN} {S:Nat->Prop} {ts:Env} {m:Mem} {a:Act} {w:World}
theorem RS.ext (h:RS B N φ fp S ts m a w) {ts':Env} {m':Mem} (ht:∀t,look ts' t=look ts t) (hm:∀l,ah m' l=ah m l):RS B N φ fp S ts' m' a w:=by
 have hk:∀l ae,known m l ae->known m' l ae:=fun l ae ⟨k,h1,h2⟩=>⟨k,(hm l).trans h1,h2⟩
 exact {h with
  kn:=fun l ae hl hk=>by obtain ⟨k,h1,h2⟩:=h.kn l ae hl hk;exact ⟨k,(hm l).trans h1,h2⟩
  tm:=fun t=>by rw [ht t];exact h.tm t
  tl:=fun t l ae hl=>hk l ae (h.tl t l ae (by rw [←ht t];exact hl))
  b7:=fun l hl=>h.b7 l ((hm l).symm.trans hl)
  aF:=fun l k hl=>h.aF l k ((hm l).symm.trans hl)
  bl:=fun l v xs hl l' ae hlv=>hk l' ae (h.bl l v xs ((hm l).symm.trans hl) l' ae hlv)}
variable {os:Nat->Oper} {qs:Nat->Rec} {D D':Nat->Bool} {ops:List Oper} {tr:List (lN × lN)}
theorem ET {lo:Nat} {t:Nat}:∀(hi:Nat),lo<=hi->(∀i,lo<=i->i<hi->D i=true->(os i).dst≠some t)->look (dv os qs D ts m hi).1 t=look (dv os qs D ts m lo).1 t
 |0,hl,_=>by rw [show lo=0 by omega]
 |hi+1,hl,h=>by
  by_cases e:lo=hi+1
  . rw [e]
  have ih:=ET hi (by omega) fun i h1 h2=>h i h1 (by omega);simp only [dv];cases hd:D hi with
  |false=>simpa using ih
  |true=>
   simp only [if_true,pq];rw [if_neg (h hi (by omega) (by omega) hd)];exact ih
theorem Bf {lo:Nat} {l:Nat}:∀(hi:Nat),lo<=hi->(∀i,lo<=i->i<hi->D i=true->l∉(qs i).new.map (·.1))->ah (dv os qs D ts m hi).2 l=ah (dv os qs D ts m lo).2 l
 |0,hl,_=>by rw [show lo=0 by omega]
 |hi+1,hl,h=>by
  by_cases e:lo=hi+1
  . rw [e]
  have ih:=Bf hi (by omega) fun i h1 h2=>h i h1 (by omega);simp only [dv];cases hd:D hi with
  |false=>simpa using ih
  |true=>
   simp only [if_true];rw [kt (h hi (by omega) (by omega) hd)];exact ih
structure Sc (P:Program) (sk:Nat) (ops:List Oper) (os:Nat->Oper) (qs:Nat->Rec) (tr:List (lN × lN)) (ts:Env) (m:Mem):Prop where
 oe:∀i o,sk<=i->ops[i]? =some o->os i=o
 ya:∀i o,sk<=i->ops[i]? =some o->∃t,tr[i]? =some t/\YA P ops o (qs i) t.1 (dv os qs (fun _=>true) ts m i).1 (dv os qs (fun _=>true) ts m i).2/\∀l,l∈(qs i).new.map (·.1)->l∈t.2
def iR (D:Nat->Bool) (j:Nat):Nat->Bool:=fun i=>D i||i==j
theorem ic.add {j:Nat} {o:Oper} (h:ic ops D) (ho:ops[j]? =some o) (hp:∀i,i∈iw o->D i=true):ic ops (iR D j):=by
 intro k o' hk hd i hi;simp only [iR,Bool.or_eq_true,beq_iff_eq] at hd ⊢;rcases hd with hd|rfl
 . exact .inl (h k o' hk hd i hi)
 rw [ho] at hk;injection hk with hk;subst hk;exact .inl (hp i hi)
theorem Sc.U3 {sk:Nat} (hR:Sc P sk ops os qs tr ts m) (hB:mz ops tr=true) (hD:ic ops D) (hn:∀i,D i=true->i<ops.length) (hsk:∀i,i<sk->D i=true) {j:Nat} {o:Oper} (ho:ops[j]? =some o) (hj:D j=false)
 (hp:∀i,i∈iw o->D i=true):
 (∃rd,YA P ops o (qs j) rd (dv os qs D ts m ops.length).1 (dv os qs D ts m ops.length).2)∧
 (∀t,look (dv os qs (iR D j) ts m ops.length).1 t=look (mn o.dst (qs j).x (dv os qs D ts m ops.length).1) t)∧
 (∀l,ah (dv os qs (iR D j) ts m ops.length).2 l=ah ((qs j).new++(dv os qs D ts m ops.length).2) l):=by
 have hjn:j<ops.length:=(q8.1 ho).1;have Xm:sk<=j:=by
  rcases Nat.lt_or_ge j sk with h|h
  . rw [hsk j h] at hj;cases hj
  exact h
 obtain ⟨t,ht,hya,il⟩:=hR.ya j o Xm ho;have hoj:=hR.oe j o Xm ho;have MT:∀i,sk<=i->i<ops.length->∃(oi:Oper) (ti:lN × lN),ops[i]? =some oi/\os i=oi/\tr[i]? =some ti/\∀l,l∈(qs i).new.map (·.1)->l∈ti.2:=by intro i hsi hi;have h1:ops[i]? =some ops[i]:=q6 hi;obtain ⟨ti,h2,_,h3⟩:=hR.ya i _ hsi h1;exact ⟨_,ti,h1,hR.oe i _ hsi h1,h2,h3⟩
 have early:∀i,i<j->D i=false->∃(oi:Oper) (ti:lN × lN),os i=oi/\(∀l,l∈(qs i).new.map (·.1)->l∈ti.2)/\Cu ops oi o ti.1 t.1 ti.2 t.2:=by
  intro i hi hdi;have hsi:sk<=i:=by
   rcases Nat.lt_or_ge i sk with h|h
   . rw [hsk i h] at hdi;cases hdi
   exact h
  obtain ⟨oi,ti,h1,h2,h3,h4⟩:=MT i hsi (by omega);refine ⟨oi,ti,h2,h4,Be hB (hD.add ho hp) hi h1 ho h3 ht fun hh=> ?_⟩;have:=hh (by simp [iR]);simp only [iR,hdi,Bool.false_or,beq_iff_eq] at this;omega
 have late:∀i,j<i->D i=true->∃(oi:Oper) (ti:lN × lN),os i=oi/\(∀l,l∈(qs i).new.map (·.1)->l∈ti.2)/\Cu ops o oi t.1 ti.1 t.2 ti.2:=by intro i hi hdi;obtain ⟨oi,ti,h1,h2,h3,h4⟩:=MT i (by omega) (hn i hdi);refine ⟨oi,ti,h2,h4,Be hB hD hi ho h1 ht h3 fun hh=> ?_⟩;have:=hh hdi;rw [hj] at this;cases this
 have dA:dv os qs (fun _=>true) ts m j=dv os qs (fun i=>decide (i<j)) ts m ops.length:=by rw [my (j:=j) (fun q hq=>by simp;omega) ops.length (by omega)];exact kJ j (q16 _) fun q hq=>by simp [hq]
 rw [dA] at hya;refine ⟨⟨t.1,hya.local (fun u hu=> ?_) (fun l hl=> ?_) (fun l hl=> ?_)⟩,fun u=> ?_,fun l=> ?_⟩
 . refine xz ops.length 0 (Nat.zero_le _) (fun i _ hi hne=> ?_) rfl;rcases Nat.lt_trichotomy i j with h|h|h
   . simp only [h,decide_true] at hne;obtain ⟨oi,ti,h1,h2,h3⟩:=early i h (by simpa using hne);rw [h1];exact fun hd=>h3.t1 _ hd hu
   . subst h;simp [hj] at hne
   have:decide (i<j)=false:=by simp;omega
   rw [this] at hne;obtain ⟨oi,ti,h1,h2,h3⟩:=late i h (by simpa using hne);rw [h1];exact fun hd=>h3.t2 _ hd hu
 . refine pr ops.length 0 (Nat.zero_le _) (fun i _ hi hne=> ?_) rfl;rcases Nat.lt_trichotomy i j with h|h|h
   . simp only [h,decide_true] at hne;obtain ⟨oi,ti,h1,h2,h3⟩:=early i h (by simpa using hne);exact fun hd=>h3.l1 _ (h2 l hd) hl
   . subst h;simp [hj] at hne
   have:decide (i<j)=false:=by simp;omega
   rw [this] at hne;obtain ⟨oi,ti,h1,h2,h3⟩:=late i h (by simpa using hne);exact fun hd=>h3.l2 _ (h2 l hd) hl
 . refine pr ops.length 0 (Nat.zero_le _) (fun i _ hi hne=> ?_) rfl;rcases Nat.lt_trichotomy i j with h|h|h
   . simp only [h,decide_true] at hne;obtain ⟨oi,ti,h1,h2,h3⟩:=early i h (by simpa using hne);exact fun hd=>h3.l3 _ (h2 l hd) (il l hl)
   . subst h;simp [hj] at hne
   have:decide (i<j)=false:=by simp;omega
   rw [this] at hne;obtain ⟨oi,ti,h1,h2,h3⟩:=late i h (by simpa using hne);exact fun hd=>h3.l3 _ (il l hl) (h2 l hd)
 . rw [pq];by_cases hd:o.dst=some u
   . rw [if_pos hd]
     rw [ET (lo:=j+1) ops.length hjn fun i h1 h2 h3=>by
      have hdi:D i=true:=by simp only [iR,Bool.or_eq_true,beq_iff_eq] at h3;exact h3.resolve_right (by omega)
      obtain ⟨oi,ti,g1,_,g3⟩:=late i h1 hdi;rw [g1]
      exact g3.t3 u hd]
     simp only [dv,iR,beq_self_eq_true,Bool.or_true,if_true,pq,hoj,hd]
   rw [if_neg hd];refine xz ops.length 0 (Nat.zero_le _) (fun i _ hi hne=> ?_) rfl;have:i=j:=by
    by_cases e:i=j
    . exact e
    have:(i==j)=false:=by simpa using e
    simp [iR,this] at hne
   subst this;rw [hoj];exact hd
 by_cases hd:l∈(qs j).new.map (·.1)
 . rw [Bf (lo:=j+1) ops.length hjn fun i h1 h2 h3=>by
    have hdi:D i=true:=by simp only [iR,Bool.or_eq_true,beq_iff_eq] at h3;exact h3.resolve_right (by omega)
    obtain ⟨oi,ti,g1,g2,g3⟩:=late i h1 hdi
    exact fun hl=>g3.l3 l (il l hd) (g2 l hl)]
   simp only [dv,iR,beq_self_eq_true,Bool.or_true,if_true];exact rP hd
 rw [kt hd];refine pr ops.length 0 (Nat.zero_le _) (fun i _ hi hne=> ?_) rfl;have:i=j:=by
  by_cases e:i=j
  . exact e
  have:(i==j)=false:=by simpa using e
  simp [iR,this] at hne
 subst this;exact hd
theorem ct (h:RS B N φ fp S ts m a w) (hgs:de N ops=true) {j:Nat} {o:Oper} (ho:ops[j]? =some o) {b:Bool} (hw:cM ops o ts=some b):Region.wanted o (yielded ops.toArray a.tmps)=b:=by
 unfold cM at hw;unfold Region.wanted;split at hw
 . rename_i hg;rw [hg];injection hw
 rename_i i v hg;rw [hg];split at hw
 . rename_i c hl;have hgo:=List.all_eq_true.1 hgs o (List.mem_of_getElem? ho);rw [hg] at hgo;have hj:∃d,((ops[i]?).bind (·.dst))=some d/\d<N:=by
    simp only at hgo;split at hgo
    . rename_i d hd;exact ⟨d,hd,by simpa using hgo⟩
    cases hgo
   have hy:=Es h hl hj;simp only [hy];injection hw
 . rename_i hl;have hgo:=List.all_eq_true.1 hgs o (List.mem_of_getElem? ho);rw [hg] at hgo;have hj:∃d,((ops[i]?).bind (·.dst))=some d/\d<N:=by
    simp only at hgo;split at hgo
    . rename_i d hd;exact ⟨d,hd,by simpa using hgo⟩
    cases hgo
   have hy:=wZ h hl hj;simp only [hy];injection hw with hw
 cases hw
theorem pt {f g:Nat->Bool}:∀(l:lN) (j:Nat),j∈l->f j=true->g j=false->(∀i,g i=true->f i=true)->l.countP g<l.countP f
 |x::r,j,hj,hf,hg,h=>by
  have hle:∀l:lN,l.countP g<=l.countP f:=fun l=>List.countP_mono_left fun i _ hi=>h i hi;rw [List.countP_cons,List.countP_cons];rcases q10.1 hj with rfl|hj
  . have:=hle r;simp [hf,hg];omega
  have:=pt r j hj hf hg h;have h1:=h x;cases hgx:g x<;>cases hfx:f x<;>simp_all<;>(try omega)
def Cv (n:Nat) (listed:Array Bool):Nat:=(List.range n).countP fun i=> !listed.getD i false
theorem Bg {sk:Nat} {ts0:Env} {m0:Mem} (hR:Sc P sk ops os qs tr ts0 m0) (hB:mz ops tr=true) (hok:jH N ops=true) (hgs:de N ops=true) {Q:Exit->Act->World->Prop} {K:St}
 (hK:K (dv os qs (fun _=>true) ts0 m0 ops.length).1 (dv os qs (fun _=>true) ts0 m0 ops.length).2) (hQ:∀a w,hZ B N K a w->Q .normal a w):
 ∀(fuel:Nat) (listed:Array Bool) (φ:Nat->LS) (fp:Nat->lN) (S:Nat->Prop) (a:Act) (w:World),listed.size=ops.length->ic ops (fun i=>listed.getD i false)->(∀i,i<sk->listed.getD i false=true)->Cv ops.length listed<=fuel→
  RS B N φ fp S (dv os qs (fun i=>listed.getD i false) ts0 m0 ops.length).1 (dv os qs (fun i=>listed.getD i false) ts0 m0 ops.length).2 a w->wpAny P .any ops.toArray Q fuel listed a w:=by
 have qh:∀i o,ops[i]? =some o->∀p,p∈iw o->p<i:=by intro i o ho p hp;simp only [mz,uD,Bool.and_eq_true,List.all_eq_true,List.mem_range] at hB;have:=hB.1 i (q8.1 ho).1;rw [ho] at this;simpa using List.all_eq_true.1 this p hp
 have cR:∀(listed:Array Bool),listed.size=ops.length->Region.ready .any ops.toArray listed=[]->∀i,i<ops.length->listed.getD i false=true:=by
  intro listed hs hr i;induction i using Nat.strongRecOn with
  |ind i ih=>
   intro hi;cases hl:listed.getD i false with
   |true=>rfl
   |false=>
    have ho:ops[i]? =some ops[i]:=q6 hi
    have:i∈Region.ready .any ops.toArray listed:=mem_ready.2 ⟨getD_in (by omega) hl,ops[i],by simpa using ho,fun e he hb=>by
     have hp:e.on∈iw ops[i]:=q13.2 ⟨e,List.mem_filter.2 ⟨by simpa using he,hb⟩,rfl⟩;have hlt:=qh i _ ho _ hp
     exact ih e.on hlt (by omega)⟩
    rw [hr] at this;cases this
 have cA:∀(listed:Array Bool) (φ:Nat->LS) (fp:Nat->lN) (S:Nat->Prop) (a:Act) (w:World),(∀i,i<ops.length->listed.getD i false=true)→
  RS B N φ fp S (dv os qs (fun i=>listed.getD i false) ts0 m0 ops.length).1 (dv os qs (fun i=>listed.getD i false) ts0 m0 ops.length).2 a w->Q .normal a w:=by
  intro listed φ fp S a w hl h;have e:dv os qs (fun i=>listed.getD i false) ts0 m0 ops.length=dv os qs (fun _=>true) ts0 m0 ops.length:=kJ ops.length (q16 _) fun q hq=>hl q hq;rw [e] at h;exact hQ a w ⟨φ,fp,S,_,_,h,hK⟩
 intro fuel;induction fuel with
 |zero=>
  intro listed φ fp S a w hs hc hsk hf h;have hl:∀i,i<ops.length->listed.getD i false=true:=by
   intro i hi;cases hl:listed.getD i false with
   |true=>rfl
   |false=>
    have h0:Cv ops.length listed=0:=Nat.le_zero.1 hf;have:=List.countP_eq_zero.1 h0 i (List.mem_range.2 hi);rw [hl] at this;exact absurd rfl this
  refine ⟨?_,cA listed φ fp S a w hl h⟩;cases hr:Region.ready .any ops.toArray listed with
  |nil=>rfl
  |cons j r=>
   have hj:j∈Region.ready .any ops.toArray listed:=by rw [hr];exact q12 ..
   obtain ⟨h0,o,ho,_⟩:=mem_ready.1 hj;have hjn:j<ops.length:=by simpa using (q1.1 ho).1
   have:=hl j hjn;rw [getD_both h0] at this;cases this
 |succ fuel ih=>
  intro listed φ fp S a w hs hc hsk hf h;refine ⟨fun hr=>cA listed φ fp S a w (cR listed hs hr) h,fun j hj=> ?_⟩;obtain ⟨h0,o,ho,dA⟩:=mem_ready.1 hj;have hdj:listed.getD j false=false:=getD_both h0;have ho':ops[j]? =some o:=by simpa using ho
  have hjn:j<ops.length:=(q8.1 ho').1;have hp:∀i,i∈iw o->listed.getD i false=true:=by intro i hi;obtain ⟨e,he,rfl⟩:=q13.1 hi;obtain ⟨he1,he2⟩:=List.mem_filter.1 he;exact dA e (by simpa using he1) he2
  obtain ⟨⟨rd,hya⟩,hlk,hlb⟩:=hR.U3 (D:=fun i=>listed.getD i false) hB hc (fun i hi=>by
   rcases Nat.lt_or_ge i listed.size with h'|h'
   . omega
   rw [q0,Array.getElem?_eq_none h'] at hi;cases hi) hsk ho' hdj hp
  have hD':(fun i=>(listed.setIfInBounds j true).getD i false)=iR (fun i=>listed.getD i false) j:=by
   funext i;by_cases e:i=j
   . subst e;simp [iR,hs,hjn]
   have e2:(i==j)=false:=by simpa using e
   rw [getD_set_ne false (Ne.symm e)];simp [iR,e2]
  have hf':Cv ops.length (listed.setIfInBounds j true)<=fuel:=by
   have:Cv ops.length (listed.setIfInBounds j true)<Cv ops.length listed:=by
    refine pt _ j (List.mem_range.2 hjn) (by simp only [hdj];rfl) (by simp [hs,hjn]) fun i hi=> ?_;by_cases e:i=j
    . subst e;rw [hdj];rfl
    rw [getD_set_ne false (Ne.symm e)] at hi;exact hi
   omega
  have next:∀a' w',hZ B N (fun ts m=>ts=mn o.dst (qs j).x (dv os qs (fun i=>listed.getD i false) ts0 m0 ops.length).1/\m=(qs j).new++(dv os qs (fun i=>listed.getD i false) ts0 m0 ops.length).2) a' w'→
   wpAny P .any ops.toArray Q fuel (listed.setIfInBounds j true) a' w':=by
   rintro a' w' ⟨φ',fp',S',ts',m',h',rfl,rfl⟩
   refine ih _ φ' fp' S' a' w' (by simp [hs]) (by rw [hD'];exact hc.add ho' hp) (fun i hi=>by
    by_cases e:i=j
    . subst e;simp [hs,hjn]
    rw [getD_set_ne false (Ne.symm e)];exact hsk i hi) hf' ?_
   rw [hD'];exact h'.ext hlk hlb
  have hdo:∀d,o.dst=some d->d<N:=by intro d hd;have:=List.all_eq_true.1 hok o (List.mem_of_getElem? ho');rw [hd] at this;simpa using this
  unfold wpOp;simp only [ho];rcases hya with ⟨hw,_,cJ⟩|⟨hw,hx,il⟩
  . rw [ct h hgs ho' hw];simp only [if_true];refine .inl (gb h (xy (cJ _ (fun _ _=>rfl) (fun _ _=>rfl) (fun x m'=>x=(qs j).x/\m'=(qs j).new++(dv os qs (fun i=>listed.getD i false) ts0 m0 ops.length).2) ⟨rfl,rfl⟩)) fun v w' hg=> ?_);exact next _ _ (step_done hdo hg fun x m' ⟨h1,h2⟩=>⟨by rw [h1],h2⟩)
  rw [ct h hgs ho' hw];simp only [q3,if_false];refine next _ _ (step_done (k:=fun x m'=>x= .aX []/\m'=(dv os qs (fun i=>listed.getD i false) ts0 m0 ops.length).2) hdo (h.gives (x:=.aX []) (.rd _ _ (.aX [] #[] rfl fun i hi=>absurd hi (q19 _))) (fun _ _ hl=>by cases hl) ⟨rfl,rfl,rfl⟩) fun x m' ⟨h1,h2⟩=>⟨by rw [h1,hx],by rw [h2,il];rfl⟩)
end
def y3 (m' m:Mem):lN:=(m'.take (m'.length-m.length)).map (·.1)
theorem Sd (new m:Mem):y3 (new++m) m=new.map (·.1):=by unfold y3;rw [List.length_append,Nat.add_sub_cancel,List.take_left'];rfl
def sD (P:Program) (ops:List Oper):List Oper->Env->Mem->List (lN × lN)->St->Prop
 | [],ts,m,tr,k=>mz ops tr.reverse=true/\k ts m
 |o::r,ts,m,tr,k=>match o.guard with
  |none=>cC P (o.dst.getD 0) o.op ts m fun x m'=>sD P ops r (mn o.dst x ts) m' ((vp o.op ts,y3 m' m)::tr) k
  |some (j,want)=>gg want (look ts (jG ops j)) (cC P (o.dst.getD 0) o.op ts m fun x m'=>sD P ops r (mn o.dst x ts) m' ((vp o.op ts,y3 m' m)::tr) k)
    (sD P ops r (mn o.dst (.aX []) ts) m (([],[])::tr) k)
theorem mem_keys {new:Mem} {l:Nat} (h:ah new l≠none):l∈new.map (·.1):=by
 induction new with
 |nil=>exact absurd rfl h
 |cons p r ih=>
  obtain ⟨k,v⟩:=p;rw [aw] at h;by_cases e:k=l
  . simp [e]
  rw [if_neg e] at h;exact q11 _ (ih h)
theorem Hx {os:Nat->Oper} {qs qs':Nat->Rec} {D:Nat->Bool} {ts:Env} {m:Mem}:∀(i:Nat),(∀j,j<i->qs j=qs' j)->dv os qs D ts m i=dv os qs' D ts m i
 |0,_=>rfl
 |i+1,h=>by simp only [dv];rw [Hx i fun j hj=>h j (by omega),h i (by omega)]
def XU (P:Program) (sk:Nat) (ops:List Oper) (os:Nat->Oper) (qs:Nat->Rec) (tr:List (lN × lN)) (ts:Env) (m:Mem) (n:Nat):Prop:=
 ∀i o,sk<=i->i<n->ops[i]? =some o->∃t,tr[i]? =some t/\YA P ops o (qs i) t.1 (dv os qs (fun _=>true) ts m i).1 (dv os qs (fun _=>true) ts m i).2/\∀l,l∈(qs i).new.map (·.1)->l∈t.2
theorem xB {P:Program} {sk:Nat} {ops:List Oper} {os:Nat->Oper} (hos:∀i o,sk<=i->ops[i]? =some o->os i=o) {ts0:Env} {m0:Mem} {K:St}:
 ∀(r:List Oper) (i:Nat) (qs:Nat->Rec) (tr:List (lN × lN)) (ts:Env) (m:Mem),ops.drop i=r->sk<=i->i<=ops.length->tr.length=i->dv os qs (fun _=>true) ts0 m0 i=(ts,m)->XU P sk ops os qs tr.reverse ts0 m0 i->sD P ops r ts m tr K→
  ∃qs' tr,Sc P sk ops os qs' tr ts0 m0/\mz ops tr=true/\K (dv os qs' (fun _=>true) ts0 m0 ops.length).1 (dv os qs' (fun _=>true) ts0 m0 ops.length).2/\∀j,j<i->qs' j=qs j
 | [],i,qs,tr,ts,m,hl,Xn,hin,ht,hs,hu,hk=>by
   have hn:ops.length<=i:=by have:=congrArg List.length hl;simp at this;omega
   have e:i=ops.length:=by omega
   subst e;exact ⟨qs,tr.reverse,⟨hos,fun j o hsj ho=>hu j o hsj (q8.1 ho).1 ho⟩,hk.1,by rw [hs];exact hk.2,fun _ _=>rfl⟩
 |o::r,i,qs,tr,ts,m,hl,Xn,hin,ht,hs,hu,hk=>by
  have hi:i<ops.length:=by have:=congrArg List.length hl;simp at this;omega
  have hoi:ops[i]? =some o:=by have:=congrArg (·[0]?) hl;simpa using this
  have hr:ops.drop (i+1)=r:=by have:=congrArg List.tail hl;simpa using this
  have go:∀(q:Rec) (t:lN × lN),YA P ops o q t.1 ts m->(∀l,l∈q.new.map (·.1)->l∈t.2)->sD P ops r (mn o.dst q.x ts) (q.new++m) (t::tr) K→
   ∃qs' tr,Sc P sk ops os qs' tr ts0 m0/\mz ops tr=true/\K (dv os qs' (fun _=>true) ts0 m0 ops.length).1 (dv os qs' (fun _=>true) ts0 m0 ops.length).2/\∀j,j<i->qs' j=qs j:=by
   intro q t hya il hk;have hq:∀j,j<i->qs j=(fun k=>if k=i then q else qs k) j:=fun j hj=>by simp;intro e;omega
   have hst:∀j,j<=i->dv os (fun k=>if k=i then q else qs k) (fun _=>true) ts0 m0 j=dv os qs (fun _=>true) ts0 m0 j:=fun j hj=>(Hx j fun k hk=>hq k (by omega)).symm;suffices hh:∃qs' tr,Sc P sk ops os qs' tr ts0 m0/\mz ops tr=true/\K (dv os qs' (fun _=>true) ts0 m0 ops.length).1 (dv os qs' (fun _=>true) ts0 m0 ops.length).2/\∀j,j<i+1->qs' j=(fun k=>if k=i then q else qs k) j by obtain ⟨qs',tr',g1,g2,g3,g4⟩:=hh;exact ⟨qs',tr',g1,g2,g3,fun j hj=>(g4 j (by omega)).trans (hq j hj).symm⟩
   refine xB hos r (i+1) (fun k=>if k=i then q else qs k) (t::tr) _ _ hr (by omega) hi (by simp [ht]) ?_ ?_ hk
   . simp only [dv,if_true,hst i (q16 _),hs,hos i o Xn hoi]
   intro j oj hsj hj hoj;rw [hst j (by omega)];rw [List.reverse_cons];by_cases e:j=i
   . subst e;rw [hoi] at hoj;injection hoj with hoj;subst hoj
     refine ⟨t,by rw [List.getElem?_append_right (by simp [ht])];simp [ht],?_,by simpa using il⟩;rw [hs];simpa using hya
   obtain ⟨t',h1,h2,h3⟩:=hu j oj hsj (by omega) hoj;refine ⟨t',by rw [List.getElem?_append_left (by simp [ht];omega)];exact h1,?_,?_⟩
   . simpa [e] using h2
   simpa [e] using h3
  have run:cM ops o ts=some true->cC P (o.dst.getD 0) o.op ts m (fun x m'=>sD P ops r (mn o.dst x ts) m' ((vp o.op ts,y3 m' m)::tr) K)→
   ∃qs' tr,Sc P sk ops os qs' tr ts0 m0/\mz ops tr=true/\K (dv os qs' (fun _=>true) ts0 m0 ops.length).1 (dv os qs' (fun _=>true) ts0 m0 ops.length).2/\∀j,j<i->qs' j=qs j:=by
   intro hw hk;obtain ⟨x,new,h1,h2⟩:=Oy P _ _ _ _ _ hk;refine go ⟨x,new⟩ (vp o.op ts,y3 (new++m) m) (.inl ⟨hw,fun _ h=>h,fun m' hm hm' k' hk'=>h2 m' (fun l hl=>hm l ?_) (fun l hl=>hm' l (mem_keys hl)) k' hk'⟩) (fun l hl=>by rw [Sd];exact hl) h1;obtain ⟨y,hy,ae,hv⟩:=hl;exact List.mem_flatMap.2 ⟨y,hy,q13.2 ⟨(l,ae),hv,rfl⟩⟩
  cases hg:o.guard with
  |none=>
   simp only [sD,hg] at hk;exact run (by simp [cM,hg]) hk
  |some jw=>
   obtain ⟨j,want⟩:=jw;simp only [sD,hg] at hk;unfold gg at hk;split at hk
   . rename_i c hy;by_cases hc:c=want
     . subst hc;exact run (by simp [cM,hg,hy]) (hk.1 rfl)
     exact go ⟨.aX [],[]⟩ ([],[]) (.inr ⟨by simp [cM,hg,hy,hc],rfl,rfl⟩) (fun l hl=>by simp at hl) (hk.2 hc)
   . rename_i hy;exact go ⟨.aX [],[]⟩ ([],[]) (.inr ⟨by simp [cM,hg,hy],rfl,rfl⟩) (fun l hl=>by simp at hl) hk
   exact hk.elim
theorem aj.draw {P:Program} {N i:Nat} {ops:List Oper} {ts:Env} {m:Mem} {Q:dc} {q:Pack (Code.region i ⟨ops⟩ true,Q)} (hm:P.follows .mixedOrders=true) (hok:(jH N ops&&de N ops)=true)
 (h:sD P ops ops ts m [] (Q .normal)):aj P N (.region i ⟨ops⟩ true) ts m Q q:=by
 refine ⟨fun B φ fp S a w hRS=> ?_⟩;simp only [Bool.and_eq_true] at hok;obtain ⟨qs,tr,hR,hB,hK,_⟩:=xB (os:=fun i=>(ops[i]?).getD default) (ts0:=ts) (m0:=m) (sk:=0) (fun i o _ ho=>by simp [ho]) ops 0 (fun _=>⟨.undef,[]⟩) [] ts m rfl (q16 _) (Nat.zero_le _) rfl rfl (fun i o _ hi=>absurd hi (q19 _)) h;refine wp_region_any hm ?_;refine Bg (B:=B) (N:=N) hR hB hok.1 hok.2 hK (fun a w hd=>hd) _ _ φ fp S a _ (by simp) ?_ (fun i hi=>absurd hi (q19 _)) ?_ ?_
 . intro j o _ hd;have hd:(q2 (List.toArray ops).size false).getD j false=true:=hd;rw [getD_replicate_false] at hd;cases hd
 . exact q17 List.countP_le_length (by simp)
 have e:(fun i=>(q2 (List.toArray ops).size false).getD i false)=fun _=>false:=funext fun i=>getD_replicate_false _ _;have e2:=my (os:=fun i=>(ops[i]?).getD default) (qs:=qs) (D:=fun _=>false) (ts:=ts) (m:=m) (j:=0) (fun _ _=>rfl) ops.length (Nat.zero_le _);show RS B N φ fp S (dv _ qs (fun i=>(q2 (List.toArray ops).size false).getD i false) ts m ops.length).1 (dv _ qs (fun i=>(q2 (List.toArray ops).size false).getD i false) ts m ops.length).2 a {w with drawn:=w.drawn+1};rw [e,e2];exact hRS.qT rfl ⟨rfl,rfl,rfl⟩
section
variable (P:Program) (d:Nat) (ts:Env) (m:Mem) (k:AV->Mem->Prop)
theorem Oz (x:Operand):iI P d (.move x) ts m k=k (ev ts x) m:=rfl
theorem Hy (x:Operand):iI P d (.assign x) ts m k=k (ev ts x) m:=rfl
theorem OA (c a b:Operand):iI P d (.pick c a b) ts m k=pR (ev ts c) (ev ts a) (ev ts b) fun v=>k v m:=rfl
theorem KZ (t:TypeId):iI P d (.alloc t) ts m k=dZ (aJ P t) fun ti=>Cd d ti.zero m k:=rfl
theorem Se (t:TypeId) (x:Operand):iI P d (.box t x) ts m k=Cd d (ev ts x) m k:=rfl
theorem K0 (t:TypeId) (l:List (Nat × Operand)):iI P d (.build t ⟨l⟩) ts m k=dZ (aJ P t) fun ti=>V8 ti.kind (qk ti (l.map fun p=>(p.1,ev ts p.2)) fun v=>k v m):=rfl
theorem xC (t:TypeId) (n:Nat) (l:List (Nat × Operand)):iI P d (.buildSlice t n ⟨l⟩) ts m k=dZ (aJ P t) fun tt=>wM tt.kind (dZ (aJ P tt.elem) fun ti=>gC ti d n (l.map fun p=>(p.1,ev ts p.2)) m k):=rfl
theorem OB (t:TypeId) (x:Operand):iI P d (.load t x) ts m k=dZ (aJ P t) fun ti=>n8 ti.agg ti.size (ev ts x) m k:=rfl
theorem K1 (t:TypeId) (p y:Operand):iI P d (.store t p y) ts m k=dZ (aJ P t) fun ti=>fx ti.size (ev ts p) (ev ts y) m fun m'=>k .undef m':=rfl
theorem Cw (x:Operand):iI P d (.nilCheck x) ts m k=ry m (ev ts x) fun v=>k v m:=rfl
theorem K3 (op:BinOp) (t t2:TypeId) (x y:Operand):iI P d (.binOp op t x y t2) ts m k=dZ (aJ P t) fun ti=>gG P t op (ev ts x) (ev ts y) (fun v=>k v m) (ly op ti.kind (ev ts x) (ev ts y) (UN y) m fun v=>k v m):=rfl
theorem Sf (t:TypeId) (x:Operand):iI P d (.unOp .not t x) ts m k=y4 (ev ts x) fun v=>k v m:=rfl
theorem Sg (t:TypeId) (x:Operand):iI P d (.unOp .neg t x) ts m k=B8 (ev ts x) fun v=>k v m:=rfl
theorem EU (s t:TypeId) (x:Operand):iI P d (.convert s t x) ts m k=dZ (aJ P s) fun si=>dZ (aJ P t) fun ti=>kF P si ti d (ev ts x) m k:=rfl
theorem zb (t:TypeId) (l c:Operand):iI P d (.makeSlice t l c) ts m k=dZ (aJ P t) fun tt=>wM tt.kind (dZ (aJ P tt.elem) fun ti=>rf ti d (ev ts l) (ev ts c) m k):=rfl
theorem K4 (t:TypeId) (x:Operand) (lo hi:Option Operand):iI P d (.slice t x lo hi none) ts m k=dZ (aJ P t) fun tt=>mW P tt (ev ts x) (lo.map (ev ts)) (hi.map (ev ts)) m fun v=>k v m:=rfl
theorem zc (t:TypeId) (x:Operand) (f:Nat):iI P d (.fieldAddr t x f) ts m k=dZ (aJ P t) fun ti=>vd ti.fields[f]? fun fd=>0<fd.2.1/\hU fd.1 m (ev ts x) fun v=>k v m:=rfl
theorem zd (t:TypeId) (x i:Operand):iI P d (.indexAddr t x i) ts m k=dZ (aJ P t) fun tt=>wM tt.kind (dZ (aJ P tt.elem) fun ti=>uv ti.sh m (ev ts x) (ev ts i) fun v=>k v m):=rfl
theorem K5 (t:TypeId) (x i:Operand):iI P d (.index t x i) ts m k=dZ (aJ P t) fun tt=>(match tt.kind with| .string=>True|_=>False)/\mO (ev ts x) (ev ts i) fun v=>k v m:=rfl
theorem EV (x:Operand) (i:Nat):iI P d (.extract x i) ts m k=y6 i (ev ts x) fun v=>k v m:=rfl
theorem Si (t:TypeId) (r:List TypeId) (x:Operand):iI P d (.call ⟨.builtin .len,⟨[x]⟩,⟨t::r⟩⟩) ts m k=dZ (aJ P t) fun ti=>mN ti.kind m (ev ts x) fun v=>k v m:=rfl
theorem Sj (tys:Array TypeId) (x y:Operand):iI P d (.call ⟨.builtin .max,⟨[x,y]⟩,tys⟩) ts m k=y5 (ev ts x) (ev ts y) fun v=>k v m:=rfl
theorem Sk (tys:Array TypeId) (x y:Operand):iI P d (.call ⟨.builtin .min,⟨[x,y]⟩,tys⟩) ts m k=mL (ev ts x) (ev ts y) fun v=>k v m:=rfl
theorem Hz (tys:List TypeId) (x y:Operand):iI P d (.call ⟨.builtin .append,⟨[x,y]⟩,⟨tys⟩⟩) ts m k=kE P tys d (ev ts x) (ev ts y) m k:=rfl
theorem OC (f:FuncId) (xs:List Operand) (tys:Array TypeId):iI P d (.call ⟨.value (.func f),⟨xs⟩,tys⟩) ts m k=nN P f d (xs.map (ev ts)) m k:=rfl
theorem K6 (t:Nat) (xs:List Operand) (tys:Array TypeId):iI P d (.call ⟨.value (.tmp t),⟨xs⟩,tys⟩) ts m k=mX P (look ts t) d (xs.map (ev ts)) m k:=rfl
theorem Cx (f:FuncId) (l:List Operand):iI P d (.makeFunc (.func f) ⟨[]⟩ ⟨l⟩) ts m k=(([]:List Operand)=[]/\k (.cm f (l.map (ev ts))) m):=rfl
theorem K7 (x:Operand):cC P d (.move x) ts m k=k (ev ts x) m:=rfl
theorem EW (x:Operand):cC P d (.assign x) ts m k=k (ev ts x) m:=rfl
theorem K8 (c a b:Operand):cC P d (.pick c a b) ts m k=pR (ev ts c) (ev ts a) (ev ts b) fun v=>k v m:=rfl
theorem HA (t:TypeId):cC P d (.alloc t) ts m k=dZ (aJ P t) fun ti=>Cd d ti.zero m k:=rfl
theorem HB (t:TypeId) (l:List (Nat × Operand)):cC P d (.build t ⟨l⟩) ts m k=dZ (aJ P t) fun ti=>V8 ti.kind (qk ti (l.map fun p=>(p.1,ev ts p.2)) fun v=>k v m):=rfl
theorem vq (t:TypeId) (n:Nat) (l:List (Nat × Operand)):cC P d (.buildSlice t n ⟨l⟩) ts m k=dZ (aJ P t) fun tt=>wM tt.kind (dZ (aJ P tt.elem) fun ti=>gC ti d n (l.map fun p=>(p.1,ev ts p.2)) m k):=rfl
theorem K9 (t:TypeId) (x:Operand):cC P d (.load t x) ts m k=dZ (aJ P t) fun ti=>n7 ti.agg ti.size (ev ts x) m k:=rfl
theorem HC (t:TypeId) (p y:Operand):cC P d (.store t p y) ts m k=dZ (aJ P t) fun ti=>kC ti.size (ev ts p) (ev ts y) m fun m'=>k .undef m':=rfl
theorem ze (x:Operand):cC P d (.nilCheck x) ts m k=ry m (ev ts x) fun v=>k v m:=rfl
theorem HE (op:BinOp) (t t2:TypeId) (x y:Operand):cC P d (.binOp op t x y t2) ts m k=dZ (aJ P t) fun ti=>gG P t op (ev ts x) (ev ts y) (fun v=>k v m) (k8 op ti.kind (ev ts x) (ev ts y) fun v=>k v m):=rfl
theorem OD (t:TypeId) (x:Operand):cC P d (.unOp .not t x) ts m k=y4 (ev ts x) fun v=>k v m:=rfl
theorem Cy (s t:TypeId) (x:Operand):cC P d (.convert s t x) ts m k=dZ (aJ P s) fun si=>dZ (aJ P t) fun ti=>kF P si ti d (ev ts x) m k:=rfl
theorem HF (t:TypeId) (x:Operand) (lo hi:Option Operand):cC P d (.slice t x lo hi none) ts m k=dZ (aJ P t) fun tt=>mW P tt (ev ts x) (lo.map (ev ts)) (hi.map (ev ts)) m fun v=>k v m:=rfl
theorem xD (t:TypeId) (x:Operand) (f:Nat):cC P d (.fieldAddr t x f) ts m k=dZ (aJ P t) fun ti=>vd ti.fields[f]? fun fd=>0<fd.2.1/\hU fd.1 m (ev ts x) fun v=>k v m:=rfl
theorem xE (t:TypeId) (x i:Operand):cC P d (.indexAddr t x i) ts m k=dZ (aJ P t) fun tt=>wM tt.kind (dZ (aJ P tt.elem) fun ti=>ow ti.sh m (ev ts x) (ev ts i) fun v=>k v m):=rfl
theorem Cz (x:Operand) (i:Nat):cC P d (.extract x i) ts m k=y6 i (ev ts x) fun v=>k v m:=rfl
theorem OE (t:TypeId) (r:List TypeId) (x:Operand):cC P d (.call ⟨.builtin .len,⟨[x]⟩,⟨t::r⟩⟩) ts m k=dZ (aJ P t) fun ti=>mN ti.kind m (ev ts x) fun v=>k v m:=rfl
theorem OF (tys:Array TypeId) (x y:Operand):cC P d (.call ⟨.builtin .min,⟨[x,y]⟩,tys⟩) ts m k=mL (ev ts x) (ev ts y) fun v=>k v m:=rfl
theorem EX (tys:List TypeId) (x y:Operand):cC P d (.call ⟨.builtin .append,⟨[x,y]⟩,⟨tys⟩⟩) ts m k=kE P tys d (ev ts x) (ev ts y) m k:=rfl
theorem Ld (f:FuncId) (xs:List Operand) (tys:Array TypeId):cC P d (.call ⟨.value (.func f),⟨xs⟩,tys⟩) ts m k=nd P f d (xs.map (ev ts)) m k:=rfl
theorem zf (f:FuncId) (l:List Operand):cC P d (.makeFunc (.func f) ⟨[]⟩ ⟨l⟩) ts m k=(([]:List Operand)=[]/\k (.cm f (l.map (ev ts))) m):=rfl
def Br (c:Bool) (a b:Prop) (_:Pack (a,b)):Prop:=(c=true->a)/\(c=false->b)
theorem Sl (a b:Prop) {q:Pack (a,b)}:Br true a b q=a:=by simp [Br]
theorem OG (a b:Prop) {q:Pack (a,b)}:Br false a b q=b:=by simp [Br]
theorem Br.intro {c:Bool} {a b:Prop} {q:Pack (a,b)} (ha:c=true->a) (hb:c=false->b):Br c a b q:=⟨ha,hb⟩
theorem Sm (c:Bool) (a b:Prop):Uh (.val (.bool c)) a b=Br c a b ⟨⟩:=rfl
theorem Le (c:Bool) (a b:AV) (k:AV->Prop):pR (.val (.bool c)) a b k=Br c (k a) (k b) ⟨⟩:=rfl
theorem Lf (c:Bool) (a b:Prop):gg true (.val (.bool c)) a b=Br c a b ⟨⟩:=by simp [gg,Br]
theorem Lg (c:Bool) (a b:Prop):gg false (.val (.bool c)) a b=Br c b a ⟨⟩:=by simp only [NB,Br];exact propext and_comm
variable (ops:List Oper) (tr:List (lN × lN)) (K:St)
def qt (r:List Oper) (_:Pack (P,ops,r,d,ts,K)) (x:AV) (m':Mem):Prop:=sL P ops r ((d,x)::ts) m' K
def YS (r:List Oper) (_:Pack (P,ops,r,ts,K)) (_:AV) (m':Mem):Prop:=sL P ops r ts m' K
def HG (op:Op) (r:List Oper) (_:Pack (P,ops,r,d,op,ts,m,tr,K)) (x:AV) (m':Mem):Prop:=sD P ops r ((d,x)::ts) m' ((vp op ts,y3 m' m)::tr) K
def WC (op:Op) (r:List Oper) (_:Pack (P,ops,r,op,ts,m,tr,K)) (_:AV) (m':Mem):Prop:=sD P ops r ts m' ((vp op ts,y3 m' m)::tr) K
theorem Sn:sL P ops [] ts m K=K ts m:=rfl
theorem Lh (op:Op) (ty:TypeId) (p:String) (e:Array Edge) (r:List Oper):sL P ops (⟨some d,op,ty,p,e,none⟩::r) ts m K=iI P d op ts m (qt P d ts ops K r ⟨⟩):=rfl
theorem Li (op:Op) (ty:TypeId) (p:String) (e:Array Edge) (r:List Oper):sL P ops (⟨none,op,ty,p,e,none⟩::r) ts m K=iI P 0 op ts m (YS P ts ops K r ⟨⟩):=rfl
theorem Lj (op:Op) (ty:TypeId) (p:String) (e:Array Edge) (j:Nat) (w:Bool) (r:List Oper):
 sL P ops (⟨some d,op,ty,p,e,some (j,w)⟩::r) ts m K=gg w (look ts (jG ops j)) (iI P d op ts m (qt P d ts ops K r ⟨⟩)) (sL P ops r ((d,.aX [])::ts) m K):=rfl
theorem U4:sD P ops [] ts m tr K=(mz ops tr.reverse=true/\K ts m):=rfl
theorem OH (op:Op) (ty:TypeId) (p:String) (e:Array Edge) (r:List Oper):
 sD P ops (⟨some d,op,ty,p,e,none⟩::r) ts m tr K=cC P d op ts m (HG P d ts m ops tr K op r ⟨⟩):=rfl
theorem OI (op:Op) (ty:TypeId) (p:String) (e:Array Edge) (r:List Oper):
 sD P ops (⟨none,op,ty,p,e,none⟩::r) ts m tr K=cC P 0 op ts m (WC P ts m ops tr K op r ⟨⟩):=rfl
theorem OJ (op:Op) (ty:TypeId) (p:String) (e:Array Edge) (j:Nat) (w:Bool) (r:List Oper):
 sD P ops (⟨some d,op,ty,p,e,some (j,w)⟩::r) ts m tr K=gg w (look ts (jG ops j)) (cC P d op ts m (HG P d ts m ops tr K op r ⟨⟩))
  (sD P ops r ((d,.aX [])::ts) m (([],[])::tr) K):=rfl
theorem HH (g:Nat × bj) (m':Mem) (r:List Oper) {q:Pack (P,ops,r,ts,K)}:YS P ts ops K r q (.undef) (g::m')=sL P ops r ts (g::m') K:=rfl
theorem EY (g:Nat × bj) (m':Mem) (r:List Oper) (op:Op) {q:Pack (P,ops,r,op,ts,m,tr,K)}:WC P ts m ops tr K op r q (.undef) (g::m')=sD P ops r ts (g::m') ((vp op ts,y3 (g::m') m)::tr) K:=rfl
theorem Lk (v:Value) (r:List Oper) {q:Pack (P,ops,r,d,ts,K)}:qt P d ts ops K r q (.val v) []=sL P ops r ((d,.val v)::ts) [] K:=rfl
theorem OK (v:Value) (r:List Oper) (op:Op) {q:Pack (P,ops,r,d,op,ts,m,tr,K)}:HG P d ts m ops tr K op r q (.val v) []=sD P ops r ((d,.val v)::ts) [] ((vp op ts,y3 [] m)::tr) K:=rfl
theorem Ll (v:Value) (g:Nat × bj) (m':Mem) (r:List Oper) {q:Pack (P,ops,r,d,ts,K)}:qt P d ts ops K r q (.val v) (g::m')=sL P ops r ((d,.val v)::ts) (g::m') K:=rfl
theorem OL (v:Value) (g:Nat × bj) (m':Mem) (r:List Oper) (op:Op) {q:Pack (P,ops,r,d,op,ts,m,tr,K)}:HG P d ts m ops tr K op r q (.val v) (g::m')=sD P ops r ((d,.val v)::ts) (g::m') ((vp op ts,y3 (g::m') m)::tr) K:=rfl
theorem Lm (sh:Sh) (xs:lA) (r:List Oper) {q:Pack (P,ops,r,d,ts,K)}:qt P d ts ops K r q (.arr sh xs) []=sL P ops r ((d,.arr sh xs)::ts) [] K:=rfl
theorem OM (sh:Sh) (xs:lA) (r:List Oper) (op:Op) {q:Pack (P,ops,r,d,op,ts,m,tr,K)}:HG P d ts m ops tr K op r q (.arr sh xs) []=sD P ops r ((d,.arr sh xs)::ts) [] ((vp op ts,y3 [] m)::tr) K:=rfl
theorem Ln (sh:Sh) (xs:lA) (g:Nat × bj) (m':Mem) (r:List Oper) {q:Pack (P,ops,r,d,ts,K)}:qt P d ts ops K r q (.arr sh xs) (g::m')=sL P ops r ((d,.arr sh xs)::ts) (g::m') K:=rfl
theorem ON (sh:Sh) (xs:lA) (g:Nat × bj) (m':Mem) (r:List Oper) (op:Op) {q:Pack (P,ops,r,d,op,ts,m,tr,K)}:HG P d ts m ops tr K op r q (.arr sh xs) (g::m')=sD P ops r ((d,.arr sh xs)::ts) (g::m') ((vp op ts,y3 (g::m') m)::tr) K:=rfl
theorem Lo (xs:lA) (r:List Oper) {q:Pack (P,ops,r,d,ts,K)}:qt P d ts ops K r q (.agg xs) []=sL P ops r ((d,.agg xs)::ts) [] K:=rfl
theorem OO (xs:lA) (r:List Oper) (op:Op) {q:Pack (P,ops,r,d,op,ts,m,tr,K)}:HG P d ts m ops tr K op r q (.agg xs) []=sD P ops r ((d,.agg xs)::ts) [] ((vp op ts,y3 [] m)::tr) K:=rfl
theorem Lp (xs:lA) (g:Nat × bj) (m':Mem) (r:List Oper) {q:Pack (P,ops,r,d,ts,K)}:qt P d ts ops K r q (.agg xs) (g::m')=sL P ops r ((d,.agg xs)::ts) (g::m') K:=rfl
theorem OP (xs:lA) (g:Nat × bj) (m':Mem) (r:List Oper) (op:Op) {q:Pack (P,ops,r,d,op,ts,m,tr,K)}:HG P d ts m ops tr K op r q (.agg xs) (g::m')=sD P ops r ((d,.agg xs)::ts) (g::m') ((vp op ts,y3 (g::m') m)::tr) K:=rfl
theorem Lq (xs:lA) (r:List Oper) {q:Pack (P,ops,r,d,ts,K)}:qt P d ts ops K r q (.aX xs) []=sL P ops r ((d,.aX xs)::ts) [] K:=rfl
theorem OQ (xs:lA) (r:List Oper) (op:Op) {q:Pack (P,ops,r,d,op,ts,m,tr,K)}:HG P d ts m ops tr K op r q (.aX xs) []=sD P ops r ((d,.aX xs)::ts) [] ((vp op ts,y3 [] m)::tr) K:=rfl
theorem Lr (xs:lA) (g:Nat × bj) (m':Mem) (r:List Oper) {q:Pack (P,ops,r,d,ts,K)}:qt P d ts ops K r q (.aX xs) (g::m')=sL P ops r ((d,.aX xs)::ts) (g::m') K:=rfl
theorem OR (xs:lA) (g:Nat × bj) (m':Mem) (r:List Oper) (op:Op) {q:Pack (P,ops,r,d,op,ts,m,tr,K)}:HG P d ts m ops tr K op r q (.aX xs) (g::m')=sD P ops r ((d,.aX xs)::ts) (g::m') ((vp op ts,y3 (g::m') m)::tr) K:=rfl
theorem Ls (l v i n:Nat) (g:Nat × bj) (m':Mem) (r:List Oper) {q:Pack (P,ops,r,d,ts,K)}:qt P d ts ops K r q (.ref l v i n) (g::m')=sL P ops r ((d,.ref l v i n)::ts) (g::m') K:=rfl
theorem OS (l v i n:Nat) (g:Nat × bj) (m':Mem) (r:List Oper) (op:Op) {q:Pack (P,ops,r,d,op,ts,m,tr,K)}:HG P d ts m ops tr K op r q (.ref l v i n) (g::m')=sD P ops r ((d,.ref l v i n)::ts) (g::m') ((vp op ts,y3 (g::m') m)::tr) K:=rfl
theorem Lt (l v i j:Nat) (g:Nat × bj) (m':Mem) (r:List Oper) {q:Pack (P,ops,r,d,ts,K)}:qt P d ts ops K r q (.ptr l v i j) (g::m')=sL P ops r ((d,.ptr l v i j)::ts) (g::m') K:=rfl
theorem OT (l v i j:Nat) (g:Nat × bj) (m':Mem) (r:List Oper) (op:Op) {q:Pack (P,ops,r,d,op,ts,m,tr,K)}:HG P d ts m ops tr K op r q (.ptr l v i j) (g::m')=sD P ops r ((d,.ptr l v i j)::ts) (g::m') ((vp op ts,y3 (g::m') m)::tr) K:=rfl
theorem HI (sh:Sh) (xs:lA) (i j:Nat) (r:List Oper) {q:Pack (P,ops,r,d,ts,K)}:qt P d ts ops K r q (.bq sh xs i j) []=sL P ops r ((d,.bq sh xs i j)::ts) [] K:=rfl
theorem Lu (sh:Sh) (xs:lA) (i j:Nat) (r:List Oper) (op:Op) {q:Pack (P,ops,r,d,op,ts,m,tr,K)}:HG P d ts m ops tr K op r q (.bq sh xs i j) []=sD P ops r ((d,.bq sh xs i j)::ts) [] ((vp op ts,y3 [] m)::tr) K:=rfl
theorem HJ (sh:Sh) (xs:lA) (i j:Nat) (g:Nat × bj) (m':Mem) (r:List Oper) {q:Pack (P,ops,r,d,ts,K)}:qt P d ts ops K r q (.bq sh xs i j) (g::m')=sL P ops r ((d,.bq sh xs i j)::ts) (g::m') K:=rfl
theorem Lv (sh:Sh) (xs:lA) (i j:Nat) (g:Nat × bj) (m':Mem) (r:List Oper) (op:Op) {q:Pack (P,ops,r,d,op,ts,m,tr,K)}:HG P d ts m ops tr K op r q (.bq sh xs i j) (g::m')=sD P ops r ((d,.bq sh xs i j)::ts) (g::m') ((vp op ts,y3 (g::m') m)::tr) K:=rfl
theorem Lw (f:FuncId) (xs:lA) (g:Nat × bj) (m':Mem) (r:List Oper) {q:Pack (P,ops,r,d,ts,K)}:qt P d ts ops K r q (.cm f xs) (g::m')=sL P ops r ((d,.cm f xs)::ts) (g::m') K:=rfl
theorem OU (f:FuncId) (xs:lA) (g:Nat × bj) (m':Mem) (r:List Oper) (op:Op) {q:Pack (P,ops,r,d,op,ts,m,tr,K)}:HG P d ts m ops tr K op r q (.cm f xs) (g::m')=sD P ops r ((d,.cm f xs)::ts) (g::m') ((vp op ts,y3 (g::m') m)::tr) K:=rfl
end
attribute [go_sem ↓] Rx Kn Ry UQ Rz NF RA RB UR Sn Lh Li
attribute [go_sem ↓] Lj Oz Hy OA KZ Se K0 xC OB K1 Cw K3
attribute [go_sem ↓] Sf Sg EU zb K4 zc zd K5 EV Si
attribute [go_sem ↓] Sj Sk Hz OC K6 Cx K7 EW K8 HA
attribute [go_sem ↓] HB vq K9 HC ze HE OD Cy HF
attribute [go_sem ↓] xD xE Cz OE OF EX zf
attribute [go_sem ↓] Ld U4 OH OI OJ
attribute [go_sem] HH EY Lk OK
attribute [go_sem] Ll OL
attribute [go_sem] Lm OM Ln ON Lo OO
attribute [go_sem] Lp OP Lq OQ Lr OR
attribute [go_sem] Ls OS
attribute [go_sem] Lt OT HI Lu HJ Lv
attribute [go_sem] Lw OU
attribute [go_sem] Sl OG Sm Le Lf Lg
attribute [go_sem ↓] look_nil cP sx aw TI.Wh QY M4 GL J5 Dw Dx B7
attribute [go_sem ↓] Uf M5 vL sy zB Dy zC Dz DA
attribute [go_sem ↓] DB Uj Uk Ul Um Un Uo Up Uq Ur Us
attribute [go_sem ↓] Ut M6 M7 M8 I5 I6 zD I7 I8
attribute [go_sem ↓] I9 zE vM zF zG GM GN GO
attribute [go_sem ↓] DC mM qU vN tH vO vP zH vQ
attribute [go_sem ↓] vR tI vS vT tJ zI zJ vU
attribute [go_sem ↓] tL DD DE DF DG zK zL vV vW vX
attribute [go_sem ↓] vY vZ v7 DH sA DI tN qV
attribute [go_sem ↓] v8 tQ tS tT tU tV tW
attribute [go_sem ↓] wb DN
attribute [go_sem ↓] zO wc qZ tY n9 tZ zP Jc
attribute [go_sem ↓] Kd GS ra pT wh rb pU
attribute [go_sem ↓] ua ub uc re og ud
attribute [go_sem ↓] ue Nf Ng Nh DP zS DQ DR
attribute [go_sem ↓] zT zU zV wm zX zY ug uh
attribute [go_sem ↓] zZ z6 wo ui z7 z8 DX wq wu wv
attribute [go_sem ↓] Ab wy Ac wz uj ot Af wB wC
attribute [go_sem ↓] wD rn pV Ag Ah Ai Aj Ak Al wE uk
attribute [go_sem ↓] Am An Ao wF Ap Aq Ar wG uo D3
attribute [go_sem ↓] D4 D5 D6 As Au Av
attribute [go_sem ↓] Aw Ax wJ ur Ay Az AA AB AD wK
attribute [go_sem ↓] wL uu nO AF wN Ee AG Ef Eg Eh AH
attribute [go_sem ↓] wO Ei AI AJ
attribute [go_sem ↓] AK Ji AL AM Ki Rk Jj Jk
attribute [go_sem ↓] AN AO uw AP wP rz wQ oz mY oA
attribute [go_sem ↓] wR Rn Ek rA wT wU rB wV wW
attribute [go_sem ↓] Er Km G0 G1 G2 Rv NC G3 Rw ND Ko
attribute [go_sem ↓] Kp G4 NH NI NJ
attribute [go_sem ↓] Et NK NM Kq Kr Ks Kt Ku Kv
attribute [go_sem ↓] NN Kw NO NP NQ NR NS NT w9
attribute [go_sem ↓] NU NV NW NX NY Kx NZ N0 Ky N1
attribute [go_sem ↓] Kz G7 G8 KA N2 KB RC uy xi rG rH
attribute [go_sem ↓] p6 AR AS AT xj uA AU AW AX xk
attribute [go_sem ↓] uB KE KF sH RE KG Ha RF N4 mo Ey
attribute [go_sem ↓] Ez EA A1 N5 kq
attribute [go_sem ↓] A3 A4 A5 A6 A7 xm KI
attribute [go_sem ↓] A9 Ba ED pe kH Bb lC EL Og KK Hh
attribute [go_sem ↓] KL Hi Oh KM Oi KO Oj KP KQ Hj KR Hk
attribute [go_sem ↓] KT Hl KU Hm R7 Ol Om KV UU UW
attribute [go_sem ↓] UX RJ N7 RM RN RO N8 Hd RP
attribute [go_sem ↓] N9 KJ RQ RT RU RW Oa He RX RY RZ
attribute [go_sem ↓] Bc
attribute [go_sem] vL sy zB Dy zC Dz DA DB M6 M7
attribute [go_sem] M8 I5 I6 zD I7 I8 I9 zE vM zF zG
attribute [go_sem] qU vN tH vO vP zH vQ
attribute [go_sem] vR tI vS vT tJ zI zJ vU
attribute [go_sem] tL DD DE DF DG zK zL vV vW vX
attribute [go_sem] vY vZ v7 DI tN qV v8
attribute [go_sem] tQ tS tT tU tV tW
attribute [go_sem] wb DN zO wc
attribute [go_sem] qZ tY n9 tZ zP Jc ra
attribute [go_sem] pT rb pU ua ub uc re og
attribute [go_sem] ud ue DP zS DQ DR
attribute [go_sem] zT zU zV wm zX zY ug uh
attribute [go_sem] zZ z6 wo ui z7 z8 DX wq wu wv
attribute [go_sem] Ab wy Ac wz uj ot DY DZ
attribute [go_sem] No Np Nq Ad wA Af wB wC wD rn pV
attribute [go_sem] Ag Ah Ai Aj Ak Al wE uk Am An
attribute [go_sem] Ao wF Ap Aq Ar wG uo D3 D4 D5
attribute [go_sem] D6 As Au Av Aw Ax wJ ur
attribute [go_sem] Ay Az AA AB AD wK wL uu nO AF wN
attribute [go_sem] Ee AG Ef Eg Eh AH wO Ei
attribute [go_sem] AI AJ AK Ji AL
attribute [go_sem] AM Jj Jk AN AO uw AP wP rz
attribute [go_sem] wQ oz mY oA wR Ek rA wT wU
attribute [go_sem] rB wV wW Er uy xi rG rH p6 AR
attribute [go_sem] AS AT xj uA AU AW AX xk uB Ey
attribute [go_sem] Ez EA A1 kq
attribute [go_sem] A3 A4 A5 A6 A7 xm A9 Ba ED
attribute [go_sem] pe Bc
attribute [go_sem] List.getElem?_cons_zero List.getElem?_cons_succ List.getElem?_nil List.map_cons List.map_nil List.length_cons List.length_nil List.drop_zero List.drop_succ_cons List.take_zero List.take_succ_cons List.take_nil List.drop_nil List.set_cons_zero List.set_cons_succ q20 Nat.add_zero
attribute [go_sem] List.length_map List.getElem?_map Option.map_some Bool.true_and Bool.false_and
attribute [go_sem] Wj List.reverse_cons List.reverse_nil q14 List.cons_append Bool.true_eq_false q3 false_implies implies_true and_true true_and forall_const true_implies
attribute [go_sem ↓] reduceIte
attribute [go_sem] Nat.reduceEqDiff Nat.reduceLT Nat.reduceAdd Nat.reduceMul Nat.reduceLeDiff Int.reduceToNat
attribute [go_sem] q16 Int.natCast_zero Int.toNat_natCast
def pick (L:lN) (ts:Env):Env:=L.map fun t=>(t,look ts t)
theorem oH (ts:Env):pick [] ts=[]:=rfl
theorem sN (t:Nat) (L:lN) (ts:Env):pick (t::L) ts=(t,look ts t)::pick L ts:=rfl
def Wb:lN->Nat->Bool
 | [],_=>false
 |d::D,l=>l==d||(l / 1000==d+1||Wb D l)
theorem CA (l:Nat):Wb [] l=false:=rfl
theorem xF (d:Nat) (D:lN) (l:Nat):Wb (d::D) l=(l==d||(l / 1000==d+1||Wb D l)):=rfl
def Wc:lN->Nat->Bool
 | [],_=>false
 |d::D,l=>l==d||Wc D l
theorem CB (l:Nat):Wc [] l=false:=rfl
theorem xG (d:Nat) (D:lN) (l:Nat):Wc (d::D) l=(l==d||Wc D l):=rfl
def ix (D E:lN):Mem->Mem
 | []=>[]
 |(l,b)::r=>if (Wb D l||Wc E l)=true then ix D E r else (l,b)::ix D (l::E) r
theorem mA (D E:lN):ix D E []=[]:=rfl
theorem qu (D E:lN) (l:Nat) (b:bj) (r:Mem):ix D E ((l,b)::r)=if (Wb D l||Wc E l)=true then ix D E r else (l,b)::ix D (l::E) r:=rfl
theorem HK (b:Bool):(true||b)=true:=rfl
theorem HL (b:Bool):(false||b)=b:=rfl
section
variable {P:Program} {N:Nat} {ts:Env} {m:Mem}
theorem aj.up {body:Code} (L D E:lN) (n:Nat) (I:Nat->Prop) (up:Nat->Env) (um:Nat->Mem) {Q:dc} {q:Pack (Code.loop body,Q)} (h0:I 0)
 (hr:rE ts m (up 0++pick L ts) (um 0++ix D E m)) (hok:codeOk N body=true)
 (step:∀i,i<n->I i->vc P N body (up i++pick L ts) (um i++ix D E m) (y9 Q fun ts' m'=>I (i+1)/\rE ts' m' (up (i+1)++pick L ts) (um (i+1)++ix D E m)))
 (stop:I n->vc P N body (up n++pick L ts) (um n++ix D E m) (y9 Q fun _ _=>False)):aj P N (.loop body) ts m Q q:=
 aj.upto n I (fun i=>(up i++pick L ts,um i++ix D E m)) h0 hr hok step stop
theorem aj.lp {body:Code} {ι:Type} (L D E:lN) (I:ι->Prop) (up:ι->Env) (um:ι->Mem) (μ:ι->Nat) {Q:dc} {q:Pack (Code.loop body,Q)} (x0:ι) (h0:I x0)
 (hr:rE ts m (up x0++pick L ts) (um x0++ix D E m)) (hok:codeOk N body=true)
 (step:∀x,I x->vc P N body (up x++pick L ts) (um x++ix D E m) (y9 Q fun ts' m'=>∃y,I y/\μ y<μ x/\rE ts' m' (up y++pick L ts) (um y++ix D E m))):aj P N (.loop body) ts m Q q:=
 aj.loop I (fun i=>(up i++pick L ts,um i++ix D E m)) μ x0 h0 hr hok step
end
attribute [go_sem] Wl Jq Jr pf pg ph sK Js Oc Cr EI R0 oE R3 R4 Od R5 EJ R6 EK
attribute [go_sem] Nat.reduceLT true_or or_true or_false false_or oH sN CA xF CB xG mA qu HK HL Nat.reduceBEq Nat.reduceDiv beq_self_eq_true q3
theorem cz (a:Nat × AV) (x y:Env):a::x++y=a::(x++y):=rfl
theorem dz (x:Env):[]++x=x:=rfl
theorem ez (a:Nat × bj) (x y:Mem):a::x++y=a::(x++y):=rfl
theorem fz (x:Mem):[]++x=x:=rfl
theorem bz (a:Nat):(a==a)=true:=beq_self_eq_true a
theorem ai {a b:Prop} (x:a) (y:b):a/\b:=⟨x,y⟩
theorem pz:type_of%(And.intro @oH (And.intro @sN (And.intro @look_nil (And.intro @cP (And.intro @mA (And.intro @qu (And.intro @CA (And.intro @xF (And.intro @CB (And.intro @xG (And.intro @HL (And.intro @HK (And.intro @bz (And.intro @Bool.or_false (And.intro @Bool.false_eq_true (And.intro @cz (And.intro @dz (And.intro @ez (@fz))))))))))))))))))):=And.intro @oH (And.intro @sN (And.intro @look_nil (And.intro @cP (And.intro @mA (And.intro @qu (And.intro @CA (And.intro @xF (And.intro @CB (And.intro @xG (And.intro @HL (And.intro @HK (And.intro @bz (And.intro @Bool.or_false (And.intro @Bool.false_eq_true (And.intro @cz (And.intro @dz (And.intro @ez (@fz))))))))))))))))))
open Go.RowKit (Below)
open Go.ChangeShapes Go.WideShapes Go.ChangeAt Go.Deep
theorem Grown.below {w w':World} (h:Grown w w'):Below w.heap.size w w':=⟨h.out.os,h.out.tape,h.out.output,h.size,h.same⟩
def CC (w:World) (xs:lA) (cs:List Value):Prop:=cs.length=xs.length/\∀i (h:i<xs.length),leaf xs[i]/\Rd w (o9 w) xs[i] (cs.getD i Go.undef)
def QR (P:Program) (t:TypeId) {α:Type} (ok:α->Prop) (f:α->lA):Prop:=
 ∀(H:Type) (enc:TypeId × Value->H) (w:World) (base:Nat) (held:Bool) (fuel:Nat) (cs:List Value) (x:DataW H × List MemPlace),
  DataW.trod enc P w base (fun _=>true) held fuel t cs=some x->∃a,ok a/\CC w (f a) cs
theorem CC.one {w:World} {x:AV} {v:Value} (hl:leaf x) (h:Rd w (o9 w) x v):CC w [x] [v]:=⟨rfl,fun i hi=>by
 have:i=0:=by simpa using hi
 subst this;exact ⟨hl,h⟩⟩
theorem QR.string {P:Program} {t:TypeId} (ht:P.underlying t=some .string):QR P t (fun s:ByteArray=>s.size<=maxLen) (fun s=>[.val (.string s)]):=fun H enc w base held fuel cs x h=>by obtain ⟨s,rfl,_,hs⟩:=DataW.trod_string ht h;exact ⟨s,hs,.one trivial (.val _ rfl)⟩
theorem QR.map {P:Program} {t:TypeId} {α β:Type} {ok:α->Prop} {f:α->lA} {ok':β->Prop} {f':β->lA} (h:QR P t ok f) (hm:∀a,ok a->∃b,ok' b/\f' b=f a):QR P t ok' f':=fun H enc w base held fuel cs x hx=>by obtain ⟨a,h1,h2⟩:=h H enc w base held fuel cs x hx;obtain ⟨b,h3,h4⟩:=hm a h1;exact ⟨b,h3,by rw [h4];exact h2⟩
def U5 (ag:Bool) (xs:lA):AV:=if ag then .agg xs else xs.getD 0 .undef
inductive U6 (P:Program):List Field->Nat->{α:Type}->(α->Prop)->(α->List AV)->Prop
 |nil (o:Nat):U6 P [] o (fun _:Unit=>True) (fun _=>[])
 |cons {α β:Type} {f:Field} {r:List Field} {o n:Nat} {ok:α->Prop} {g:α->List AV} {ok':β->Prop} {g':β->List AV} (ho:f.offset=o) (hn:P.cellsOf f.type=n) (hl:∀a,(g a).length=n) (hd:QR P f.type ok g) (hr:U6 P r (o+n) ok' g'):
   U6 P (f::r) o (fun p:α × β=>ok p.1/\ok' p.2) (fun p=>g p.1++g' p.2)
theorem QR.arg {P:Program} {t:TypeId} {α:Type} {ok:α->Prop} {f:α->lA} (h:QR P t ok f) (ag:Bool) (hf:∀a,if ag then True else (f a).length=1) {H:Type} {enc:TypeId × Value->H} {w:World} {base:Nat} {held:Bool} {v:Value} {d:DataW H} {ps:List MemPlace}
 (ht:DataW.Trod enc P w base (fun _=>true) held t v d ps) (hv:if ag then ∃cs,v= .agg cs else v.cells= #[v]):∃a,ok a/\Rd w (o9 w) (U5 ag (f a)) v:=by
 obtain ⟨fuel,hx⟩:=ht;obtain ⟨a,h1,h2,h3⟩:=h H enc w base held fuel _ _ hx;refine ⟨a,h1,?_⟩;cases ag with
 |true=>
  obtain ⟨cs,rfl⟩:=hv;have e:(Value.agg cs).cells=cs:=rfl;rw [e] at h2 h3;exact .agg _ _ (by simpa using h2) (fun i hi=>(h3 i hi).1) (fun i hi=>(h3 i hi).2)
 |false=>
  have hl:(f a).length=1:=by simpa using hf a
  have hv:v.cells= #[v]:=hv;rw [hv] at h3;have:=(h3 0 (by omega)).2;have e1:U5 false (f a)=(f a)[0]'(by omega):=by simp [U5,q5,q6 (show 0<(f a).length by omega)]
  rw [e1];exact this
theorem Fn.law {P:Program} {f:FuncId} {args:lA} {b:Bool} (h:Fn P f args true (· = .val (.bool b))) (W:World) (yZ:J4 W (o9 W)) (vs:aV) (hs:vs.size=args.length)
 (hr:∀i (h:i<args.length),Rd W (o9 W) args[i] (vs.toList.getD i Go.undef)):Calls P f vs W fun e W'=>e= .returned (.bool b)/\Below W.heap.size W W':=by
 refine (h.2 W (o9 W) vs (fun _ hb=>hb) yZ hs hr).mono fun e W' ⟨r,v,he,hx,hg,j4⟩=> ?_;subst hx;obtain ⟨fs,bc,_⟩:=j4;have hv:v= .bool b:=by
  cases bc with
  |rd _ _ h=>cases h with|val _ _=>rfl
 subst hv;exact ⟨he,hg.below⟩
end Go.Vc
namespace Go.Proofs.YtofpaabacebkkaaGreatDoor
open Go.Vc Go.ChangeShapes Go.WideShapes Go.ChangeAt Go.RowKit
theorem HM {H:Type} {enc:TypeId × Value->H} {a:Assume} {C:Checked} {os:Os} {f:FuncId} {fn:Func} {s:ChangeSpec} {conds:List PathCond} {apart fresh handsOn again:Bool} {X:World->aV->Prop}
 (hX:∀(w w':World) (args:aV),w.heap=w'.heap->X w args->X w' args)
 (own:ownKnob C.prog.godebug=none) (started:os.Started) (noInit:C.prog.inits.idxOf? f=none) (hfn:C.prog.funcs[f]? =some fn)
 (witness:∃(w:World) (tape:Tape) (i:Input),w.os=os/\(w.forCall tape i).Shaped C.prog/\i.vars=[]/\Input.okWide C.prog (w.forCall tape i) .any w.heap.size f i∧
   ((s.pre enc C.prog fn conds apart (w.forCall tape i).memory i.args/\X (w.forCall tape i).memory i.args)/\sizedMet enc C.prog fn (OpenSpec.ofChange s) apart (w.forCall tape i).memory i.args)/\a.holds C.prog (lone (Frame.enter C.prog f i.args .normal) [] (w.forCall tape i)))
 (contract:∀(W:World) (base:Nat) (args:aV) (ds gs:List (DataW H)) (before:List MemPlace),
   (∀(j:Nat) t v,fn.params[j]? =some t->args[j]? =some v->Value.okWide C.prog W .any base t v)→
   DataW.Whole enc C.prog fn.params.toList s.vars apart W args.toList ds gs before→
   conds.all (PathCond.test C.prog ⟨fn.params.toList,ds,s.plain.varTypes C.prog,gs⟩)=true→
   (DataW.weightsEach C.prog (fn.params.toList++s.plain.varTypes C.prog) (ds++gs)).all (· <=reachBytes)=true->X W args->W.ShapedOpen C.prog→
   a.holds C.prog (lone (Frame.enter C.prog f args .normal) [] W)→
   Calls C.prog f args W fun e W'=>∃v,e= .returned v/\s.post enc C.prog fn apart fresh handsOn again W args v W'):
 ReturnsInHanded a C os f .any (fun w args=>(s.pre enc C.prog fn conds apart w args/\X w args)/\sizedMet enc C.prog fn (OpenSpec.ofChange s) apart w args) (s.post enc C.prog fn apart fresh handsOn again):=by
 refine returnsInHanded_of_calls own started noInit witness ?_;intro w tape i _ hsh _ hok dA VX;obtain ⟨_,_,_,fn',Yv,_,_,_,_,S6⟩:=hok;have e:fn'=fn:=Option.some.inj (Yv.symm.trans hfn);subst e;obtain ⟨⟨⟨ds,gs,before,hw,hc⟩,hx⟩,hz⟩:=dA;have hw':=DataW.Whole.of_heap (w':=w.forCall tape i) (by rfl) hw;refine (contract (w.forCall tape i) w.heap.size i.args ds gs before S6 hw' hc (hz.weights hw) (hX _ _ _ (by rfl) hx) hsh VX).mono fun e W' ⟨v,he,hp⟩=> ?_;subst he;exact ChangeSpec.post_blind hp
theorem own:ownKnob Tryz.prog.godebug=none:=by kernel_rfl
theorem laidOut:laidOutB pG=true:=by kernel_rfl
theorem xH {P:Program} {W:World} {n:String} {g:Nat} {cs:aV} (hg:P.globalNamed n=some g) (h:W.var? P n=some cs):o9 W g/\∃e fr,W.heap[g]? =some (.cells cs e fr):=by
 unfold World.var? at h;rw [hg] at h;simp only [Option.bind_some] at h;rcases h1:W.heap[g]? with _|o
 . rw [h1] at h;cases h
 rw [h1] at h;refine ⟨(q1.1 h1).1,?_⟩;cases o<;>simp at h;subst h;exact ⟨_,_,rfl⟩
theorem CD {P:Program} {W:World} {g:Nat} {t:TypeId} {zero:aV} (h:W.ShapedOpen P) (hg:g<P.globals.size)
 (h0:((begin P (fun _ _=>0) default).world.heap[g]?).bind Obj.row? =some (zero,t)) (hz:zero.size=1)
 (hb:P.buildable t=true) (hc:P.cellTypes P.depth t=some [t]) (hu:P.underlying t=some (.int .i64)):o9 W g/\∃cs e fr,W.heap[g]? =some (.cells cs e fr)/\QV cs:=by
 obtain ⟨m,hm⟩:=cell_of_shapedOpen_int h hg h0 hz hb hc hu;obtain ⟨cs,hh,hs,_⟩:=h.1 g zero t hg h0;have hsz:cs.size=1:=hs.trans hz;refine ⟨(q1.1 hh).1,cs,_,_,hh,m,?_⟩;have h1:cs[0]? =some (.int .i64 m):=by simpa [World.cell?,hh] using hm
 obtain ⟨l⟩:=cs;match l,hsz,h1 with
 | [x],_,h1=>simp at h1;subst h1;rfl
def OV:List (String × DataW Unit):=[("math/bits.deBruijn32tab",Rows.laid_math_bits_deBruijn32tab),("math/bits.deBruijn64tab",Rows.laid_math_bits_deBruijn64tab),("internal/strconv.uint64pow10",Rows.laid_internal_strconv_uint64pow10)]
theorem OW {H:Type}:(Rows.laid_internal_strconv_uint64pow10:DataW H)=Lib.tabData .u64 ((List.range 20).map fun i=>((10^i:Nat):Int)):=rfl
theorem Sp {W:World} {r:List (String × DataW Unit)} (h:laidMet pG (("internal/strconv.uint64pow10",Rows.laid_internal_strconv_uint64pow10)::r) W):
 o9 W 5/\∃cs e fr,W.heap[5]? =some (.cells cs e fr)/\QW cs:=by
 rw [OW] at h;have h1:=Lib.tabIs_of_head (g:=5) (by kernel_rfl) (by kernel_rfl) underlying232 underlying174 (by kernel_rfl) (by kernel_rfl) h;obtain ⟨a,e,fr,h2⟩:=xH (by kernel_rfl) h1;refine ⟨a,_,e,fr,h2,?_⟩;unfold QW;rw [List.map_map];rfl
theorem EZ {W:World} {n:String} {g:Nat} {t:TypeId} {a:Option Addr} (hg:Tryz.prog.globalNamed n=some g) (h:W.var? pG n=some #[.iface t (.pointer a)]):
 o9 W g/\∃cs e fr,W.heap[g]? =some (.cells cs e fr)/\M3 cs:=by
 obtain ⟨a,e,fr,h2⟩:=xH hg h;exact ⟨a,_,e,fr,h2,_,_,rfl⟩
def laidAll:List (String × DataW Unit):=OV++[("unicode/utf8.acceptRanges",Rows.laid_unicode_utf8_acceptRanges),("strconv.ErrRange",Rows.laid_strconv_ErrRange),("strconv.ErrSyntax",Rows.laid_strconv_ErrSyntax),("unicode/utf8.first",Rows.laid_unicode_utf8_first)]
theorem xI (os:Os) (args:aV):((World.laidAll pG os laidAll).forCall (fun _ _=>0) ⟨#[],args,[]⟩).Shaped pG:=
 World.shaped_of_ZipB (by kernel_rfl) (by kernel_rfl)
theorem E0 (os:Os) (args:aV):laidMetH pG laidAll ((World.laidAll pG os laidAll).forCall (fun _ _=>0) ⟨#[],args,[]⟩).memory:=by rw [MakeChecks.laidMetH_plain _ _ _ (by kernel_rfl)];exact laidMet_laidAll _ (by kernel_rfl) (by kernel_rfl)
theorem star: "*" ++ "errors.errorString" = "*errors.errorString" :=by decide
theorem OX (u:TypeId) (h:Tryz.prog.typeName? 3 u=some "*errors.errorString"):u=241:=
 typeName_ptr_named (nm:= "errors.errorString") (by rw [star];kernel_rfl) (by kernel_rfl) (by decide) u (by rw [star];exact h)
theorem Sq {W:World} (h:laidMetH pG laidAll W) (hs:W.ShapedOpen pG):J4 W (o9 W):=by
 rw [MakeChecks.laidMetH_plain _ _ _ (by kernel_rfl)] at h;have h1:laidMet pG (("internal/strconv.uint64pow10",Rows.laid_internal_strconv_uint64pow10)::_) W:=h.tail.tail;have h2:laidMet pG (("strconv.ErrRange",Rows.laid_strconv_ErrRange)::_) W:=h1.tail.tail;have h3:laidMet pG (("strconv.ErrSyntax",Rows.laid_strconv_ErrSyntax)::_) W:=h2.tail;obtain ⟨a1,s1,v1,_⟩:=laid_sentinel (g:=2) h2 (by kernel_rfl) (by kernel_rfl) underlying99 OX underlying241 underlying243 rfl rfl underlying9 (by kernel_rfl) (by kernel_rfl);obtain ⟨a2,s2,v2,_⟩:=laid_sentinel (g:=1) h3 (by kernel_rfl) (by kernel_rfl) underlying99 OX underlying241 underlying243 rfl rfl underlying9 (by kernel_rfl) (by kernel_rfl);intro g p hg;simp only [Dv,q10,Prod.mk.injEq,List.not_mem_nil,or_false] at hg;rcases hg with ⟨rfl,rfl⟩|⟨rfl,rfl⟩|⟨rfl,rfl⟩|⟨rfl,rfl⟩
 . exact CD (zero:= #[.int .i64 0]) hs (oT (by kernel_rfl)) (by kernel_rfl) (by kernel_rfl) (by kernel_rfl) (by kernel_rfl) underlying3
 . exact Sp h1
 . exact EZ (by kernel_rfl) v2
 exact EZ (by kernel_rfl) v1
end Go.Proofs.YtofpaabacebkkaaGreatDoor
namespace Go.Vc
def keys (m:Mem):lN:=m.map (·.1)
theorem keys_nil:keys []=[]:=rfl
theorem keys_cons (l:Nat) (b:bj) (r:Mem):keys ((l,b)::r)=l::keys r:=rfl
theorem CE {m:Mem} {l:Nat} (h:ah m l≠none):l∈keys m:=by
 induction m with
 |nil=>exact absurd rfl h
 |cons p r ih=>
  obtain ⟨k,v⟩:=p;rw [aw] at h;by_cases e:k=l
  . simp [keys,e]
  rw [if_neg e] at h;exact q11 _ (ih h)
theorem CF {m:Mem} {l:Nat} (h:l∈keys m):ah m l≠none:=by
 induction m with
 |nil=>cases h
 |cons p r ih=>
  obtain ⟨k,v⟩:=p;rw [aw];by_cases e:k=l
  . rw [if_pos e];exact fun h=>by cases h
  rw [if_neg e];refine ih ?_;rcases q10.1 h with h|h
  . exact absurd h.symm e
  exact h
def Wd (L:lN) (m:Mem):Prop:=(∀l,ah m l≠none->l∈L)/\∀l v xs,ah m l=some (.box v xs)->∀p,p∈aq xs->p.1∈L
def oI (L:lN) (m m':Mem):Prop:=(∀l,l∈L->ah m' l=ah m l)/\Wd L m'
def rQ (L:lN) (φ:Nat->LS) (l:Nat):LS:=if l∈L then φ l else .dead
def sO (L:lN) (fp:Nat->lN) (l:Nat):lN:=if l∈L then fp l else []
theorem iS {L:lN} {φ:Nat->LS} {l:Nat} (h:l∈L):rQ L φ l=φ l:=if_pos h
theorem CG {L:lN} {fp:Nat->lN} {l:Nat} (h:l∈L):sO L fp l=fp l:=if_pos h
theorem fE {L:lN} {fp:Nat->lN} {l b:Nat} (h:b∈sO L fp l):l∈L/\b∈fp l:=by
 unfold sO at h;split at h
 . exact ⟨‹_›,h⟩
 cases h
section
variable {P:Program} {B:eE} {N:Nat} {φ:Nat->LS} {fp:Nat->lN} {S:Nat->Prop} {ts:Env} {m:Mem} {a:Act} {w:World}
theorem RS.sub (h:RS B N φ fp S ts m a w) {L:lN} {m':Mem} (hk:oI L m m') (hb:∀l,ah B.m0 l≠none->l∈L):
 RS B 0 (rQ L φ) (sO L fp) S [] m' {tmps:= #[],defers:=[]} w:=by
 obtain ⟨k1,k2,k3⟩:=hk
 refine {tm:=fun t=>by rw [look_nil];exact .rd _ _ (.undef _),tl:=fun t l ae hl=>(by rw [look_nil] at hl;cases hl),b7:=fun l hl=> ?_,aF:=fun l b hb=> ?_,bl:=fun l v xs hb l' ae hl=> ?_,
         gZ:=fun l=> ?_,fI:=fun l l' b h1 h2=>h.fI l l' b (fE h1).2 (fE h2).2,bQ:=fun l b hb=>h.bQ l b (fE hb).2,cw:=fun l b hb=>h.cw l b (fE hb).2,
         sB:=h.sB,base:=h.base,out:=h.out,kj:=h.kj,kn:=fun l ae hl hk=> ?_,fix:=fun l ae hl hk=> ?_,size:=h.size,defers:=rfl,k6:=rfl,js:=h.js}
 . by_cases hm:l∈L
   . rw [iS hm,CG hm];rw [k1 l hm] at hl;exact h.b7 l hl
   unfold rQ sO;rw [if_neg hm,if_neg hm];exact ⟨rfl,rfl⟩
 . have hm:=k2 l (by rw [hb];exact fun e=>by cases e);have hb2:=hb;rw [k1 l hm] at hb2;rw [CG hm];refine (h.aF l b hb2).mono (fun _ _=>rfl) (fun _ h=>h) (fun l b sh ae cs e _ hb=>⟨cs,e,hb,rfl⟩) (fun _ _=>rfl) (iS hm) fun v xs e l' ae hl'=> ?_;subst e;rw [iS (k3 l v xs hb _ hl')];exact LS.le_refl _ _
 . have hm:=k2 l (by rw [hb];exact fun e=>by cases e);have hb2:=hb;rw [k1 l hm] at hb2;obtain ⟨k,h1,h2⟩:=h.bl l v xs hb2 l' ae hl;exact ⟨k,(k1 l' (k3 l v xs hb _ hl)).trans h1,h2⟩
 . unfold sO;split
   . exact h.gZ l
   exact q15
 . obtain ⟨k,h1,h2⟩:=h.kn l ae hl hk;obtain ⟨k0,h3,_⟩:=hk;exact ⟨k,(k1 l (hb l (by rw [h3];exact fun e=>by cases e))).trans h1,h2⟩
 obtain ⟨k0,h3,h4⟩:=hk;rw [iS (hb l (by rw [h3];exact fun e=>by cases e))];exact h.fix l ae hl ⟨k0,h3,h4⟩
end
def mB (w:World) (φ:Nat->LS) (fp:Nat->lN) (S:Nat->Prop) (m0:Mem):eE:=⟨w,fun l b=>b∈fp l,S,φ,m0⟩
def fK (P:Program) (f:FuncId) (m0:Mem) (xs:lA) (post:AV->Mem->Prop):Prop:=
 Enters P f/\∀(w:World) (φ:Nat->LS) (fp:Nat->lN) (S:Nat->Prop) (vs:aV),vs.size=xs.length→
  RS (mB w φ fp S m0) vs.size φ fp S (bH 0 xs) m0 {tmps:=vs,defers:=[]} w→
  Calls P f vs w fun e w'=>∃x v m' φ' fp' S',e= .returned v/\post x m'/\RV w' S' φ' x v/\an x=[]/\Wd (keys m0) m'/\RS (mB w φ fp S m0) 0 φ' fp' S' [] m' {tmps:= #[],defers:=[]} w'
theorem fK.mono {P:Program} {f:FuncId} {m0:Mem} {xs:lA} {post post':AV->Mem->Prop} (h:fK P f m0 xs post) (hp:∀r m',post r m'->post' r m'):fK P f m0 xs post':=
 ⟨h.1,fun w φ fp S vs h1 h2=>(h.2 w φ fp S vs h1 h2).mono fun _ _ ⟨x,v,m',φ',fp',S',g1,g2,g3⟩=>⟨x,v,m',φ',fp',S',g1,hp _ _ g2,g3⟩⟩
def U7 (P:Program) (rs:List ResultVar) (L:lN) (post:AV->Mem->Prop):dc
 | .normal=>fun ts m=>aN P (fun ys=>aq ys=[]/\∃m',post (bG ys) m'/\oI L m m') rs ts m []
 | .ret=>fun ts m=>aN P (fun ys=>aq ys=[]/\∃m',post (bG ys) m'/\oI L m m') rs ts m []
 |_=>fun _ _=>False
theorem OY (P:Program) (rs:List ResultVar) (L:lN) (post:AV->Mem->Prop) (ts:Env) (m:Mem):
 U7 P rs L post .ret ts m=aN P (fun ys=>aq ys=[]/\∃m',post (bG ys) m'/\oI L m m') rs ts m []:=rfl
theorem ie {ys:lA} (h:aq ys=[]):an (bG ys)=[]:=by
 match ys,h with
 | [],_=>simp [bG,an,aq]
 | [y],h=>simpa [bG,aq] using h
 |y::y'::r,h=>rw [sH];simpa [an] using h
theorem fK.nb {P:Program} {f:FuncId} {fn:Func} {c:Code} {m0:Mem} {xs:List AV} {post:AV→Mem→Prop} (hf:P.funcs[f]? =some fn) (hn:(fn.name== "runtime.NumGoroutine")=false) (hb:fn.body=some c)
 (hok:codeOk fn.ntmps c=true) (ha:xs.length<=fn.ntmps) (hv:vc P fn.ntmps c (bH 0 xs) m0 (U7 P fn.results.toList (keys m0) post)):fK P f m0 xs post:=by
 refine ⟨⟨fn,c,hf,hn,hb⟩,fun w φ fp S vs hsz hR0=> ?_⟩;refine calls_of_wp hf hb ?_;have hRS:RS (mB w φ fp S m0) fn.ntmps φ fp S (bH 0 xs) m0 {tmps:=vs++q2 (fn.ntmps-vs.size) undef,defers:=[]} w:=by
  refine {hR0 with tm:=fun t=> ?_,defers:=rfl,k6:=by simp;omega};by_cases h:t<xs.length
  . have h1:=hR0.tm t;have:vs.getD t Go.undef=(vs++q2 (fn.ntmps-vs.size) undef).getD t Go.undef:=by
     have h2:t<vs.size:=by omega
     simp only [q0];rw [Array.getElem?_append_left h2]
    rw [←this];exact h1
  rw [bI];have:(if 0<=t then (xs[t-0]?).getD AV.undef else .undef)= .undef:=by simp [q7 (show xs.length<=t by omega)]
  rw [this];exact .rd _ _ (.undef _)
 have fR:∀a' w',hZ (mB w φ fp S m0) fn.ntmps (fun ts m=>aN P (fun ys=>aq ys=[]/\∃m',post (bG ys) m'/\oI (keys m0) m m') fn.results.toList ts m []) a' w'→
  a'.defers=[]/\∃v,(results fn a'.tmps).run P w'= .ok v w'/\∃x v' m' φ' fp' S',Ending.returned v= .returned v'/\post x m'/\RV w' S' φ' x v'/\an x=[]/\Wd (keys m0) m'/\RS (mB w φ fp S m0) 0 φ' fp' S' [] m' {tmps:= #[],defers:=[]} w':=by
  rintro a' w' ⟨φ',fp',S',ts',m',h',hk⟩;refine ⟨h'.defers,?_⟩;obtain ⟨ys,us,⟨gV,m2,gK,T4⟩,h2,h3,h4⟩:=cL h' fn.results.toList [] [] ⟨rfl,fun i hi=>absurd hi (q19 _)⟩ (fun i hi=>absurd hi (q19 _)) hk;obtain ⟨h3a,h3b⟩:=h3;simp only [q14] at h3a h3b;refine ⟨if h:us.toArray.size=1 then us.toArray[0] else .tuple us.toArray,?_,bG ys,_,m2,rQ (keys m0) φ',sO (keys m0) fp',S',rfl,gK,?_,ie gV,T4.2,h'.sub T4 fun l hl=>CE hl⟩
  . have hm:results fn a'.tmps=(do let vs ←fn.results.mapM (cY a'.tmps);pure (if h:vs.size=1 then vs[0] else .tuple vs)):=by
     unfold results;congr 1
    rw [hm,Sem.run_bind,Array.mapM_eq_mapM_toList];have:(List.toArray <$> fn.results.toList.mapM (cY a'.tmps):Sem aV).run P w'= .ok us.toArray w':=by rw [map_eq_pure_bind,Sem.run_bind,h2];rfl
    rw [this];rfl
  refine (mu h3a h3b).mono (fun _ _=>rfl) (fun _ h=>h) (fun l b sh ae cs e _ hb=>⟨cs,e,hb,rfl⟩) fun l ae hl=> ?_;rw [ie gV] at hl;cases hl
 refine wp_mono (cD c _ _ _ hok hv _ _ _ _ _ _ hRS) ?_;intro e a' w' hq;cases e with
 |normal=>exact fR a' w' hq
 |ret=>exact fR a' w' hq
 |_=>obtain ⟨_,_,_,_,_,_,hh⟩:=hq;exact hh.elim
theorem fK.dK {P:Program} {f:FuncId} {fn:Func} {c:Code} {m0:Mem} {xs:lA} {post:AV->Mem->Prop} (N:Nat) (rs:List ResultVar) (hf:P.funcs[f]? =some fn) (hN:fn.ntmps=N:=by exact rfl) (hr:fn.results.toList=rs:=by exact rfl)
 (hn:(fn.name== "runtime.NumGoroutine")=false:=by exact rfl) (hb:fn.body=some c:=by exact rfl) (hok:codeOk N c=true:=by exact rfl) (ha:xs.length≤N:=by exact oT rfl) (hv:vc P N c (bH 0 xs) m0 (U7 P rs (keys m0) post)):fK P f m0 xs post:=by
 subst hN;subst hr;exact fK.nb hf hn hb hok ha hv
theorem xJ {m' m:Mem} {l:Nat} {b:bj} (h:ah m' l=some b):ah (m'++m) l=some b:=by
 induction m' with
 |nil=>cases h
 |cons p r ih=>
  obtain ⟨k,v⟩:=p;rw [List.cons_append,aw];rw [aw] at h;by_cases e:k=l
  . rw [if_pos e] at h ⊢;exact h
  rw [if_neg e] at h ⊢;exact ih h
theorem HN {m' m:Mem} {l:Nat} (h:ah m' l=none):ah (m'++m) l=ah m l:=by
 induction m' with
 |nil=>rfl
 |cons p r ih=>
  obtain ⟨k,v⟩:=p;rw [List.cons_append,aw];rw [aw] at h;by_cases e:k=l
  . rw [if_pos e] at h;cases h
  rw [if_neg e] at h ⊢;exact ih h
def oJ (P:Program) (f:FuncId) (xs:lA) (m:Mem) (k:AV->Mem->Prop):Prop:=
 Enters P f/\∀(B:eE) (N:Nat) (φ:Nat->LS) (fp:Nat->lN) (S:Nat->Prop) (ts:Env) (a:Act) (w:World) (vs:aV),RS B N φ fp S ts m a w->vs.size=xs.length→
  (∀i (h:i<xs.length),RV w S φ xs[i] (vs.toList.getD i Go.undef))->(∀i (h:i<xs.length) l ae,(l,ae)∈an xs[i]->known m l ae)→
  Calls P f vs w fun e w'=>∃v,e= .returned v/\∃φ' fp' S' m' x,RS B N φ' fp' S' ts m' a w'/\RV w' S' φ' x v/\(∀l ae,(l,ae)∈an x->known m' l ae)/\k x m'∧
   ∀l,ah m l≠none->bE<=l->∀b,b∈fp' l->w.heap.size<=b\/b∈fp l
theorem oJ.io {P:Program} {f:FuncId} {xs:lA} {m:Mem} {k:AV->Mem->Prop} (h:oJ P f xs m k):gY P f xs m k:=by intro B N φ fp S ts a w vs hRS hsz hx hxl;refine ⟨h.1,(h.2 B N φ fp S ts a w vs hRS hsz hx hxl).mono ?_⟩;rintro e w' ⟨v,rfl,φ',fp',S',m',x,g1,g2,g3,g4,_⟩;exact ⟨v,rfl,φ',fp',S',ts,m',x,g1,g2,g3,rfl,g4⟩
theorem oJ.Dr {P:Program} {f:FuncId}:∀(ρ:List (Nat × Nat)) {xs:lA} {m:Mem} {k:AV->Mem->Prop},oG ρ m->oJ P f (mr ρ xs) (kI ρ m) (fun x m'=>k (rM ρ x) (rL ρ m'))->oJ P f xs m k
 | [],xs,m,k,_,h=>by
   simp only [kI,mr] at h;rw [show xs.map (pK [])=xs from by rw [show pK []=id from rfl,List.map_id]] at h;exact h
 |(l,l')::r,xs,m,k,⟨⟨⟨hl,hio⟩,hh,hl'⟩,qQ⟩,hv=>by
  have hlen:(p8 l l' xs).length=xs.length:=bV l l' xs;have e9:mr r (p8 l l' xs)=mr ((l,l')::r) xs:=by refine List.ext_getElem (by simp [mr,hlen]) fun i h1 h2=> ?_;simp only [mr,List.getElem_map];rw [eV l l' xs i (by simpa [mr] using h2)];rfl
  have kZ:=oJ.Dr r (k:=fun x m'=>k (iO l l' x) (xu l l' m')) (xs:=p8 l l' xs) qQ (by rw [e9];exact hv);refine ⟨kZ.1,fun B N φ fp S ts a w vs h hsz hx hxl=> ?_⟩;have hm0:ah B.m0 l'=none:=by
   cases he:ah B.m0 l' with
   |none=>rfl
   |some k0=>
    obtain ⟨k2,h7,_⟩:=h.kn l' k0.ae hio ⟨k0,he,q16 _⟩;rw [show ah m l'=none from hl'] at h7;cases h7
  have VW:fp l'=[]:=(h.b7 l' hl').2;have h1:=h.Oe hl hm0 (fun b hb=>by rw [VW] at hb;cases hb);have hne:l≠l':=by unfold bE at*;omega
  have e1:rl l l' l=l':=by simp [rl]
  have e2:rl l l' l'=l:=by unfold rl;rw [if_neg (Ne.symm hne),if_pos rfl]
  have hlk:∀x,ah (xu l l' m) x≠none↔ah m (rl l l' x)≠none:=fun x=>by rw [cQ];cases ah m (rl l l' x)<;>simp
  have:=kZ.2 B N _ _ S _ a w vs h1 (by rw [hlen];exact hsz) (fun i hi=>by
   have h':i<xs.length:=by rw [hlen] at hi;exact hi
   rw [eV l l' xs i h' hi];exact (hx i h').Dr l l') (fun i hi l0 ae hl0=>by
   have h':i<xs.length:=by rw [hlen] at hi;exact hi
   rw [eV l l' xs i h' hi,jK] at hl0;obtain ⟨⟨k0,v0⟩,q1,q2⟩:=q13.1 hl0;simp only [Prod.mk.injEq] at q2;obtain ⟨rfl,rfl⟩:=q2;obtain ⟨b0,q3,q4⟩:=hxl i h' k0 v0 q1
   exact ⟨Jt l l' b0,by rw [cQ,jJ,q3];rfl,by rw [nc];exact q4⟩)
  refine this.mono ?_;rintro e w' ⟨v,rfl,φ',fp',S',m',x,g1,g2,g3,g4,g5⟩;have hb5:∀b,b∈fp' l'->B.w0.heap.size<=b:=by
   intro b hb';rcases g5 l' ((hlk l').2 (by rw [e2];exact hh)) hio b hb' with h5|h5
   . exact q17 h.size h5
   have h5:b∈fp (rl l l' l'):=h5;rw [e2] at h5;rcases (h.cw l b h5).2 with h6|⟨_,_,h6,_⟩
   . exact h6
   exact absurd hl (Nat.not_lt.2 h6)
  have g6:=g1.Oe hl hm0 hb5;refine ⟨v,rfl,fun k=>φ' (rl l l' k),fun k=>fp' (rl l l' k),S',xu l l' m',iO l l' x,?_,g2.Dr l l',fun l0 ae hl0=> ?_,g4,fun l0 h0 h2 b hb'=> ?_⟩
  . have ets:∀t,look (Hg l l' (Hg l l' ts)) t=look ts t:=fun t=>by rw [iP,iP,Cs]
    exact {g6 with tm:=fun t=>by rw [←ets];exact g6.tm t,tl:=fun t l ae hl=>g6.tl t l ae (by rw [ets];exact hl)}
  . rw [jK] at hl0;obtain ⟨⟨k0,v0⟩,q1,q2⟩:=q13.1 hl0;simp only [Prod.mk.injEq] at q2;obtain ⟨rfl,rfl⟩:=q2;obtain ⟨b0,q3,q4⟩:=g3 k0 v0 q1;exact ⟨Jt l l' b0,by rw [cQ,jJ,q3];rfl,by rw [nc];exact q4⟩
  have n1:l0≠l:=fun e=>by subst e;exact absurd hl (Nat.not_lt.2 h2)
  have n2:l0≠l':=fun e=>by subst e;exact h0 hl'
  have e3:rl l l' l0=l0:=by unfold rl;rw [if_neg n1,if_neg n2]
  have hb':b∈fp' (rl l l' l0):=hb';rw [e3] at hb';have:=g5 l0 ((hlk l0).2 (by rw [e3];exact h0)) h2 b hb';rcases this with h5|h5
  . exact .inl h5
  have h5:b∈fp (rl l l' l0):=h5;rw [e3] at h5;exact .inr h5
theorem fK.call {P:Program} {f:FuncId} {m0:Mem} {xs:lA} {post:AV->Mem->Prop} {m:Mem} {k:AV->Mem->Prop} (hH:fK P f m0 xs post) (hhi:∀l,l∈keys m0->bE<=l) (hm:∀l,l∈keys m0->ah m l=ah m0 l)
 (hok:Wd (keys m0) m0) (hxs:∀p,p∈aq xs->p.1∈keys m0) (hk:∀r m',post r m'->k r (m'++m)):oJ P f xs m k:=by
 refine ⟨hH.1,fun B N φ fp S ts a w vs h hsz hx hxl=> ?_⟩;have hR0:RS (mB w (rQ (keys m0) φ) (sO (keys m0) fp) S m0) vs.size (rQ (keys m0) φ) (sO (keys m0) fp) S (bH 0 xs) m0 {tmps:=vs,defers:=[]} w:=by
  refine {tm:=fun t=> ?_,tl:=fun t l ae hl=> ?_,b7:=fun l hl=> ?_,aF:=fun l b hb=> ?_,bl:=fun l v xs hb l' ae hl=> ?_,gZ:=fun l=> ?_,fI:=fun l l' b h1 h2=>h.fI l l' b (fE h1).2 (fE h2).2,
          bQ:=fun l b hb=>h.bQ l b (fE hb).2,cw:=fun l b hb=>⟨(h.cw l b (fE hb).2).1,.inr ⟨l,hb,hhi l (fE hb).1,.inl rfl⟩⟩,sB:=fun b hb=>⟨(h.sB b hb).1,.inr hb⟩,base:=fun b _ _=>rfl,out:=a8.refl _,kj:=jD.refl _,
          kn:=fun _ _ _ hk=>hk,fix:=fun _ _ _ _=>LS.le_refl _ _,size:=q16 _,defers:=rfl,k6:=rfl,js:=h.js}
  . rw [bI];by_cases ht:t<xs.length
    . have e:(if 0<=t then (xs[t-0]?).getD AV.undef else .undef)=xs[t]:=by simp [ht]
      rw [e];have e2:vs.toList.getD t Go.undef=vs.getD t Go.undef:=by simp [q5,q0]
      rw [←e2];refine (hx t ht).mono (fun _ _=>rfl) (fun _ h=>h) (fun l b sh ae cs e _ hb=>⟨cs,e,hb,rfl⟩) fun l ae hl=> ?_;rw [iS (hxs _ (bt ht hl))];exact LS.le_refl _ _
    have e:(if 0<=t then (xs[t-0]?).getD AV.undef else .undef)= .undef:=by simp [q7 (show xs.length<=t by omega)]
    rw [e];exact .rd _ _ (.undef _)
  . rw [bI] at hl;by_cases ht:t<xs.length
    . have e:(if 0<=t then (xs[t-0]?).getD AV.undef else .undef)=xs[t]:=by simp [ht]
      rw [e] at hl;obtain ⟨b,h1,h2⟩:=hxl t ht l ae hl;exact ⟨b,(hm l (hxs _ (bt ht hl))).symm.trans h1,h2⟩
    have e:(if 0<=t then (xs[t-0]?).getD AV.undef else .undef)= .undef:=by simp [q7 (show xs.length<=t by omega)]
    rw [e] at hl;cases hl
  . have hn:l∉keys m0:=fun hh=>CF hh hl;unfold rQ sO;rw [if_neg hn,if_neg hn];exact ⟨rfl,rfl⟩
  . have hl:l∈keys m0:=CE (by rw [hb];exact fun e=>by cases e);rw [CG hl];refine (h.aF l b ((hm l hl).trans hb)).mono (fun _ _=>rfl) (fun _ h=>h) (fun l b sh ae cs e _ hb=>⟨cs,e,hb,rfl⟩) (fun _ _=>rfl) (iS hl) fun v xs e l' ae hl'=> ?_;subst e;rw [iS (hok.2 l v xs hb _ hl')];exact LS.le_refl _ _
  . have hl0:l∈keys m0:=CE (by rw [hb];exact fun e=>by cases e);obtain ⟨b,h1,h2⟩:=h.bl l v xs ((hm l hl0).trans hb) l' ae hl;exact ⟨b,(hm l' (hok.2 l v xs hb _ hl)).symm.trans h1,h2⟩
  unfold sO;split
  . exact h.gZ l
  exact q15
 refine (hH.2 w _ _ S vs hsz hR0).mono ?_;rintro e w' ⟨x,v,m',φ',fp',S',rfl,gK,hrv,gV,Xo,hR⟩;have iY:∀b:Nat,b<w.heap.size->(∀l,l∈keys m0->b∉fp l)->w'.heap[b]? =w.heap[b]? :=fun b hb hn=>hR.base b hb fun l hb'=>hn l (fE hb').1 (fE hb').2;have kY:∀b,S b->w'.heap[b]? =w.heap[b]? :=fun b hb=>iY b (h.sB b hb).1 fun l _ hb'=>h.bQ _ b hb' hb;have hz:fS φ w w':=fun l b sh ae cs e _ hb=>hR.kj b cs e hb;have hST:∀b,S' b->S b\/(S' b/\w.heap.size<=b):=fun b hb=>by
  rcases (hR.sB b hb).2 with hh|hh
  . exact .inr ⟨hb,hh⟩
  exact .inl hh
 have kno:∀l ae,l∈keys m0->known m l ae->known m0 l ae:=fun l ae hl ⟨b,h1,h2⟩=>⟨b,(hm l hl).symm.trans h1,h2⟩;have inm':∀l,l∈keys m0->∃b,ah m' l=some b:=by
  intro l hl;cases hb:ah m0 l with
  |none=>exact absurd hb (CF hl)
  |some b=>
   obtain ⟨b',h1,_⟩:=hR.kn l b.ae (hhi l hl) ⟨b,hb,q16 _⟩;exact ⟨b',h1⟩
 have lkL:∀l,l∈keys m0->ah (m'++m) l=ah m' l:=fun l hl=>by obtain ⟨b,hb⟩:=inm' l hl;rw [hb];exact xJ hb
 have lkR:∀l,l∉keys m0->ah (m'++m) l=ah m l:=fun l hl=>HN (by
  cases hb:ah m' l with
  |none=>rfl
  |some b=>exact absurd (Xo.1 l (by rw [hb];exact fun e=>by cases e)) hl)
 have hkn:∀l ae,known m l ae->known (m'++m) l ae:=by
  intro l ae hk;by_cases hl:l∈keys m0
  . obtain ⟨b,h1,h2⟩:=hR.kn l ae (hhi l hl) (kno l ae hl hk);exact ⟨b,(lkL l hl).trans h1,h2⟩
  obtain ⟨b,h1,h2⟩:=hk;exact ⟨b,(lkR l hl).trans h1,h2⟩
 let φ2:Nat->LS:=fun l=>if l∈keys m0 then φ' l else φ l
 let fp2:Nat->lN:=fun l=>if l∈keys m0 then fp' l else fp l
 have φi:∀l,l∈keys m0->φ2 l=φ' l:=fun l hl=>if_pos hl;have φo:∀l,l∉keys m0->φ2 l=φ l:=fun l hl=>if_neg hl;have fi:∀l,l∈keys m0->fp2 l=fp' l:=fun l hl=>if_pos hl;have fo:∀l,l∉keys m0->fp2 l=fp l:=fun l hl=>if_neg hl;have hle:∀l ae,known m l ae->LS.le (φ2 l) (φ l) ae:=by
  intro l ae hk;by_cases hl:l∈keys m0
  . have:=hR.fix l ae (hhi l hl) (kno l ae hl hk);have this:LS.le (φ' l) (rQ (keys m0) φ l) ae:=this;rw [iS hl] at this;rw [φi l hl];exact this
  rw [φo l hl];exact LS.le_refl _ _
 have fpnew:∀l,l∈keys m0->∀b,b∈fp' l->b<w'.heap.size/\(w.heap.size<=b\/b∈fp l):=by intro l hl b hb;have:=hR.cw l b hb;refine ⟨this.1,this.2.imp id ?_⟩;rintro ⟨l',hb2,_,hl3⟩;have hl3:l'=l:=hl3.resolve_right fun e=>CF hl e;subst hl3;have hb2:b∈sO (keys m0) fp l':=hb2;exact (fE hb2).2
 have Zn:∀l,ah m' l=none->fp' l=[]:=fun l hl=>(hR.b7 l hl).2;have mixed:∀l,l∈keys m0->∀l' b,l'∉keys m0->b∈fp' l->b∈fp l'->False:=by
  intro l hl l' b hl' b1 b2;rcases (fpnew l hl b b1).2 with hh|hh
  . have:=(h.cw l' b b2).1;omega
  exact hl' (by rw [h.fI _ _ b b2 hh];exact hl)
 refine ⟨v,rfl,φ2,fp2,fun b=>S b\/(S' b/\w.heap.size<=b),m'++m,x,?_,?_,fun l ae hl=>(by rw [gV] at hl;cases hl),hk x m' gK,fun l _ _ b hb=>(by
  by_cases hl:l∈keys m0
  . rw [fi l hl] at hb;exact (fpnew l hl b hb).2
  rw [fo l hl] at hb;exact .inr hb)⟩
 . refine {tm:=fun t=>(h.tm t).mono kY (fun b hb=>.inl hb) hz fun l ae hl=>hle l ae (h.tl t l ae hl),tl:=fun t l ae hl=>hkn l ae (h.tl t l ae hl),b7:=fun l hl=> ?_,aF:=fun l b hb=> ?_,
           bl:=fun l v xs hb l' ae hl=> ?_,gZ:=fun l=> ?_,fI:=fun l l' b h1 h2=> ?_,bQ:=fun l b hb=> ?_,cw:=fun l b hb=> ?_,sB:=fun b hb=> ?_,base:=fun b hb hio=> ?_,
           out:=h.out.trans hR.out,kj:=h.kj.trans hR.kj,kn:=fun l ae hl hk=>hkn l ae (h.kn l ae hl hk),fix:=fun l ae hl hk=>LS.le_trans (hle l ae (h.kn l ae hl hk)) (h.fix l ae hl hk),size:=q17 h.size hR.size,defers:=h.defers,k6:=h.k6,
           js:=h.js.mono kY fun b hb=>.inl hb}
   . by_cases hm1:l∈keys m0
     . obtain ⟨b,hb⟩:=inm' l hm1;rw [lkL l hm1,hb] at hl;cases hl
     rw [lkR l hm1] at hl;rw [φo l hm1,fo l hm1];exact h.b7 l hl
   . by_cases hm1:l∈keys m0
     . rw [lkL l hm1] at hb;rw [fi l hm1];refine (hR.aF l b hb).mono (fun _ _=>rfl) hST (fun l b sh ae cs e _ hb=>⟨cs,e,hb,rfl⟩) (fun _ _=>rfl) (φi l hm1) fun v xs e l' ae hl'=> ?_;subst e;rw [φi l' (Xo.2 l v xs hb _ hl')];exact LS.le_refl _ _
     rw [lkR l hm1] at hb;rw [fo l hm1];refine (h.aF l b hb).mono kY (fun b hb=>.inl hb) hz (fun c hc=>iY c (h.cw l c hc).1 fun l' hl' hc'=>hm1 (by rw [h.fI _ _ c hc hc'];exact hl')) (φo l hm1) fun v xs e l' ae hl'=> ?_;subst e;exact hle l' ae (h.bl l v xs hb l' ae hl')
   . by_cases hm1:l∈keys m0
     . rw [lkL l hm1] at hb;obtain ⟨b,h1,h2⟩:=hR.bl l v xs hb l' ae hl;exact ⟨b,xJ h1,h2⟩
     rw [lkR l hm1] at hb;exact hkn l' ae (h.bl l v xs hb l' ae hl)
   . by_cases hm1:l∈keys m0
     . rw [fi l hm1];exact hR.gZ l
     rw [fo l hm1];exact h.gZ l
   . by_cases m1:l∈keys m0
     . rw [fi l m1] at h1;by_cases m2:l'∈keys m0
       . rw [fi l' m2] at h2;exact hR.fI _ _ b h1 h2
       rw [fo l' m2] at h2;exact (mixed l m1 l' b m2 h1 h2).elim
     rw [fo l m1] at h1;by_cases m2:l'∈keys m0
     . rw [fi l' m2] at h2;exact (mixed l' m2 l b m1 h2 h1).elim
     rw [fo l' m2] at h2;exact h.fI l l' b h1 h2
   . by_cases hm1:l∈keys m0
     . rw [fi l hm1] at hb;rintro (hs|hs)
       . rcases (fpnew l hm1 b hb).2 with hh|hh
         . have:=(h.sB b hs).1;omega
         exact h.bQ _ b hh hs
       exact hR.bQ _ b hb hs.1
     rw [fo l hm1] at hb;rintro (hs|hs)
     . exact h.bQ l b hb hs
     have:=(h.cw l b hb).1;omega
   . by_cases hm1:l∈keys m0
     . rw [fi l hm1] at hb;have:=fpnew l hm1 b hb;refine ⟨this.1,?_⟩;rcases this.2 with hh|hh
       . exact .inl (q17 h.size hh)
       exact (h.cw _ b hh).2
     rw [fo l hm1] at hb;have:=h.cw l b hb;exact ⟨q18 this.1 hR.size,this.2⟩
   . rcases hb with hs|hs
     . have:=h.sB b hs;exact ⟨q18 this.1 hR.size,this.2⟩
     exact ⟨(hR.sB b hs.1).1,.inl (q17 h.size hs.2)⟩
   refine (iY b (q18 hb h.size) fun l hl hb'=> ?_).trans (h.base b hb hio);rcases (h.cw _ b hb').2 with hh|hh
   . omega
   exact hio _ hh.choose_spec.1
 refine hrv.mono (fun _ _=>rfl) hST (fun l b sh ae cs e _ hb=>⟨cs,e,hb,rfl⟩) fun l ae hl=> ?_;rw [gV] at hl;cases hl
def ck (L:lN):List (Nat × Nat)->Prop
 | []=>True
 |p::r=>p.1∈L/\ck L r
theorem OZ (L:lN):ck L []=True:=rfl
theorem Lx (L:lN) (l v:Nat) (r:List (Nat × Nat)):ck L ((l,v)::r)=(l∈L/\ck L r):=rfl
theorem oK {L:lN}:∀{r:List (Nat × Nat)},ck L r->∀p,p∈r->p.1∈L
 | [],_,p,h=>by cases h
 |_::_,h,p,hp=>by
  rcases q10.1 hp with e|hp
  . subst e;exact h.1
  exact oK h.2 p hp
def XI (L:lN) (b:bj):Prop:=match b with
 | .box _ xs=>ck L (aq xs)
 |_=>True
theorem Sr (L:lN) (v:Nat) (xs:lA):XI L (.box v xs)=ck L (aq xs):=rfl
theorem Ss (L:lN) (v:Nat) (sh:Sh) (d:Bool) (xs:lA):XI L (.row v sh d xs)=True:=rfl
def okB (L:lN):Mem->Prop
 | []=>True
 |(l,b)::r=>(l∈L/\XI L b)/\okB L r
theorem Su (L:lN):okB L []=True:=rfl
theorem O0 (L:lN) (l:Nat) (b:bj) (r:Mem):okB L ((l,b)::r)=((l∈L/\XI L b)/\okB L r):=rfl
theorem sP {L:lN}:∀{m:Mem},okB L m->Wd L m
 | [],_=>⟨fun l h=>absurd rfl h,fun l v xs h=>by cases h⟩
 |(l,b)::r,⟨⟨h1,h2⟩,h3⟩=>by
  obtain ⟨g1,g2⟩:=sP h3;refine ⟨fun l' h=> ?_,fun l' v xs h=> ?_⟩
  . rw [aw] at h;split at h
    . rename_i e;subst e;exact h1
    exact g1 l' h
  rw [aw] at h;split at h
  . injection h with h
    subst h;exact oK h2
  exact g2 l' v xs h
def rR (m m':Mem):lN->Prop
 | []=>True
 |l::r=>ah m l=ah m' l/\rR m m' r
theorem Ly (m m':Mem):rR m m' []=True:=rfl
theorem HO (m m':Mem) (l:Nat) (r:lN):rR m m' (l::r)=(ah m l=ah m' l/\rR m m' r):=rfl
theorem mC {m m':Mem}:∀{L:lN},rR m m' L->∀l,l∈L->ah m l=ah m' l
 | [],_,l,h=>by cases h
 |_::_,⟨h1,h2⟩,l,h=>by
  rcases q10.1 h with rfl|h
  . exact h1
  exact mC h2 l h
theorem aL {L:lN} {m m':Mem} (h1:rR m' m L) (h2:okB L m'):oI L m m':=⟨mC h1,sP h2⟩
def E1:lN->Prop
 | []=>True
 |l::r=>1000000000<=l/\E1 r
theorem O1:E1 []=True:=rfl
theorem Lz (l:Nat) (r:lN):E1 (l::r)=(1000000000<=l/\E1 r):=rfl
theorem rS:∀{L:lN},E1 L->∀l,l∈L->bE<=l
 | [],_,l,h=>by cases h
 |_::_,⟨h1,h2⟩,l,h=>by
  rcases q10.1 h with rfl|h
  . exact h1
  exact rS h2 l h
theorem cW {P:Program} {f:FuncId} {m0:Mem} {xs xt:lA} {d:Nat} {post:AV->Mem->Prop} {m:Mem} {k:AV->Mem->Prop} {q:Pack k} (hH:fK P f m0 xs post)
 (hc:(E1 (keys m0)/\okB (keys m0) m0)/\rR m m0 (keys m0)/\ck (keys m0) (aq xs)) (hk:∀r m',post r m'->k r (m'++m)):e6 P f d xs xt m k q:=
 .inl (fK.call hH (rS hc.1.1) (mC hc.2.1) (sP hc.1.2) (oK hc.2.2) hk).io
theorem ji (J:Nat) {P:Program} {f:FuncId} {m0:Mem} {xs xs0 xt:lA} {d:Nat} {post:AV->Mem->Prop} {m:Mem} {k:AV->Mem->Prop} {q:Pack k} (hH:fK P f m0 xs0 post)
 (hr:oG (eR J [] m) m/\mr (eR J [] m) xs=xs0)
 (hc:(E1 (keys m0)/\okB (keys m0) m0)/\rR (kI (eR J [] m) m) m0 (keys m0)/\ck (keys m0) (aq xs0))
 (hk:∀r m',post r m'->k (rM (eR J [] m) r) (rL (eR J [] m) (m'++kI (eR J [] m) m))):e6 P f d xs xt m k q:=
 .inl (oJ.Dr (eR J [] m) hr.1 (by rw [hr.2];exact fK.call hH (rS hc.1.1) (mC hc.2.1) (sP hc.1.2) (oK hc.2.2) hk)).io
attribute [go_sem] keys_nil keys_cons OZ Lx Sr Ss Su O0 Ly HO O1 Lz OY
end Go.Vc
namespace Go.Vc
section
variable {P:Program} {B:eE} {N:Nat} {φ:Nat->LS} {fp:Nat->lN} {S:Nat->Prop} {ts:Env} {m:Mem} {a:Act} {w:World}
def uE (l v:Nat) (sh:Sh) (ys:lA):lA->lA->Prop
 | [],[]=>True
 |x::xs,t::r=>((∃i n,x= .ref l v i n/\i+n<=ys.length/\t= .arr sh ((ys.drop i).take n))\/(an x=[]/\aG x=false/\t=x))/\uE l v sh ys xs r
 |_,_=>False
theorem mD {l v:Nat} {sh:Sh} {ys xs r:lA} (i n:Nat) (h:i+n<=ys.length) (hr:uE l v sh ys xs r):uE l v sh ys (.ref l v i n::xs) (.arr sh ((ys.drop i).take n)::r):=⟨.inl ⟨i,n,rfl,h,rfl⟩,hr⟩
theorem rT {l v:Nat} {sh:Sh} {ys xs r:lA} {x:AV} (h:an x=[]) (h2:aG x=false) (hr:uE l v sh ys xs r):uE l v sh ys (x::xs) (x::r):=⟨.inr ⟨h,h2,rfl⟩,hr⟩
theorem LB {l v:Nat} {sh:Sh} {ys:lA}:uE l v sh ys [] []:=trivial
theorem kK {P:Program} {f:FuncId} {d:Nat} {xs trs xt:lA} {m:Mem} {k:AV->Mem->Prop} {q:Pack k} {post:AV->Prop} (l v:Nat) (sh:Sh) (dp:Bool) (ys:lA) (hfn:Fn P f trs false post) (hl:l<bE)
 (hm:ah m l=some (.row v sh dp ys)) (hx:uE l v sh ys xs trs) (hk:∀r,post r->k r ((l,.gone v)::m)):e6 P f d xs xt m k q:=by
 refine .inl fun B N φ fp S ts a w vs h hsz hrv hxl=>⟨hfn.1,?_⟩;have hf:=h.XH hl hm (v:=v) rfl
 have hlen:∀(xs trs:lA),uE l v sh ys xs trs->trs.length=xs.length/\∀i (h1:i<xs.length) (h2:i<trs.length),
  (∃j n,xs[i]= .ref l v j n/\j+n<=ys.length/\trs[i]= .arr sh ((ys.drop j).take n))\/(an xs[i]=[]/\aG xs[i]=false/\trs[i]=xs[i]):=by
  intro xs;induction xs with
  |nil=>intro trs hx;cases trs with
   |nil=>exact ⟨rfl,fun i h1=>absurd h1 (q19 _)⟩
   |cons=>exact hx.elim
  |cons x xs ih=>intro trs hx;cases trs with
   |nil=>exact hx.elim
   |cons t r=>
    obtain ⟨g1,g2⟩:=ih r hx.2;refine ⟨by simp [g1],fun i h1 h2=> ?_⟩;cases i with
    |zero=>exact hx.1
    |succ i=>exact g2 i (by simpa using h1) (by simpa using h2)
 obtain ⟨hlen,Yw⟩:=hlen xs trs hx;refine (hfn.2 w (fun b=>S b\/b∈fp l) vs (fun b hb=>(hf.sB b hb).1) hf.js (hsz.trans hlen.symm) fun i hi=> ?_).mono ?_
 . have hi2:i<xs.length:=by omega
   rcases Yw i hi2 hi with ⟨j,n,e1,e2,e3⟩|⟨e1,e2,e3⟩
   . rw [e3];have:=hrv i hi2;rw [e1] at this;exact Ck h hl hm e2 this
   rw [e3];exact (cU (hrv i hi2) e1).mono (fun _ _=>rfl) fun _ h=>.inl h
 rintro e w' ⟨r,v',rfl,hr,hg,j4⟩;simp only [iK,q3,if_false] at j4;have hRS:=(hf.grown hg).hold (fun b=>w.heap.size<=b/\b<w'.heap.size) (fun b hb=>⟨hb.2,q17 hf.size hb.1,fun k hk=>by have:=(hf.cw k b hk).1;omega⟩);exact ⟨v',rfl,_,_,_,ts,_,r,hRS,.rd _ _ j4,fun k ae hk=>(by rw [fT j4] at hk;cases hk),rfl,hk r hr⟩
def HP (P:Program) (rs:List ResultVar) (post:AV->Prop):dc
 | .normal=>fun ts m=>aN P (fun xs=>iL (fun ys _=>aq ys=[]/\post (bG ys)) [] m xs) rs ts m []
 | .ret=>fun ts m=>aN P (fun xs=>iL (fun ys _=>aq ys=[]/\post (bG ys)) [] m xs) rs ts m []
 |_=>fun _ _=>False
theorem O2 (P:Program) (rs:List ResultVar) (post:AV->Prop) (ts:Env) (m:Mem):HP P rs post .ret ts m=aN P (fun xs=>iL (fun ys _=>aq ys=[]/\post (bG ys)) [] m xs) rs ts m []:=rfl
theorem Fn.Sv {P:Program} {f:FuncId} {fn:Func} {c:Code} {args:List AV} {post:AV→Prop} (hf:P.funcs[f]? =some fn) (hn:(fn.name== "runtime.NumGoroutine")=false) (hb:fn.body=some c)
 (hok:codeOk fn.ntmps c=true) (ha:args.length<=fn.ntmps) (hv:vc P fn.ntmps c (bH 0 args) [] (HP P fn.results.toList post)):Fn P f args false post:=by
 refine ⟨⟨fn,c,hf,hn,hb⟩,fun w S vs hS yZ hsz hrd=> ?_⟩;refine calls_of_wp hf hb ?_;have hRS:RS ⟨w,fun _ _=>False,S,fun _=>.dead,[]⟩ fn.ntmps (fun _=>.dead) (fun _=>[]) S (bH 0 args) [] {tmps:=vs++q2 (fn.ntmps-vs.size) undef,defers:=[]} w:=by
  have lS:∀t,(look (bH 0 args) t= .undef\/∃h:t<args.length,look (bH 0 args) t=args[t]):=by
   intro t;rw [bI];by_cases h:t<args.length
   . exact .inr ⟨h,by simp [h]⟩
   exact .inl (by simp [h])
  refine {tm:=fun t=> ?_,tl:=fun t l ae hl=> ?_,b7:=fun _ _=>⟨rfl,rfl⟩,aF:=fun l k hk=>(by cases hk),bl:=fun l v xs hk=>(by cases hk),gZ:=fun _=>q15,
          fI:=fun _ _ _ h=>(by cases h),bQ:=fun _ _ h=>(by cases h),cw:=fun _ _ h=>(by cases h),sB:=fun b hb=>⟨hS b hb,.inr hb⟩,base:=fun b hb _=>rfl,out:=a8.refl _,kj:=jD.refl _,kn:=fun _ _ _ hk=>hk,fix:=fun _ _ _ _=>LS.le_refl _ _,
          size:=q16 _,defers:=rfl,k6:=by simp;omega,js:=yZ}
  . rcases lS t with e|⟨h,e⟩
    . rw [e];exact .rd _ _ (.undef _)
    rw [e];have h1:=hrd t h;have:vs.toList.getD t Go.undef=(vs++q2 (fn.ntmps-vs.size) undef).getD t Go.undef:=by
     have h2:t<vs.size:=by omega
     simp only [q0,q5,Array.getElem?_toList];rw [Array.getElem?_append_left h2]
    rw [←this];exact .rd _ _ h1
  rcases lS t with e|⟨h,e⟩
  . rw [e] at hl;cases hl
  rw [e,fT (hrd t h)] at hl;cases hl
 have fR:∀a' w',hZ ⟨w,fun _ _=>False,S,fun _=>.dead,[]⟩ fn.ntmps (fun ts m=>aN P (fun xs=>iL (fun ys _=>aq ys=[]/\post (bG ys)) [] m xs) fn.results.toList ts m []) a' w'→
  a'.defers=[]/\∃v,(results fn a'.tmps).run P w'= .ok v w'/\∃r v',Ending.returned v= .returned v'/\post r/\Grown w w'/\iK w w' S false r v':=by
  rintro a' w' ⟨Dp,fp0,S0,ts',m0,h0,hk⟩;refine ⟨h0.defers,?_⟩;obtain ⟨ys0,us,h1,h2,h3,h4⟩:=cL h0 fn.results.toList [] [] ⟨rfl,fun i hi=>absurd hi (q19 _)⟩ (fun i hi=>absurd hi (q19 _)) hk;obtain ⟨φ',fp',S',m',ys,hgv,h3,gV,gK⟩:=pc ys0 us [] [] h0 (by simpa using h3) ⟨rfl,fun i hi=>absurd hi (q19 _)⟩ h1;have h':=hgv.rs;obtain ⟨h3a,h3b⟩:=h3;simp only [q14] at h3a h3b;refine ⟨if h:us.toArray.size=1 then us.toArray[0] else .tuple us.toArray,?_,bG ys,_,rfl,gK,⟨h'.size,fun b hb=>h'.base b hb (fun _ h=>h),h'.out⟩,?_⟩
  . have hm:results fn a'.tmps=(do let vs ←fn.results.mapM (cY a'.tmps);pure (if h:vs.size=1 then vs[0] else .tuple vs)):=by
     unfold results;congr 1
    rw [hm,Sem.run_bind,Array.mapM_eq_mapM_toList];have:(List.toArray <$> fn.results.toList.mapM (cY a'.tmps):Sem aV).run P w'= .ok us.toArray w':=by rw [map_eq_pure_bind,Sem.run_bind,h2];rfl
    rw [this];rfl
  show Rd w' _ _ _;refine (cU (mu h3a h3b) (ie gV)).mono (fun _ _=>rfl) fun b hb=> ?_;rcases (h'.sB b hb).2 with hh|hh
  . exact .inr ⟨hh,(h'.sB b hb).1⟩
  exact .inl hh
 refine wp_mono (cD c _ _ _ hok hv _ _ _ _ _ _ hRS) ?_;intro e a' w' hq;cases e with
 |normal=>exact fR a' w' hq
 |ret=>exact fR a' w' hq
 |_=>obtain ⟨_,_,_,_,_,_,hh⟩:=hq;exact hh.elim
theorem Fn.cf {P:Program} {f:FuncId} {fn:Func} {c:Code} {args:List AV} {post:AV→Prop} (N:Nat) (rs:List ResultVar) (hf:P.funcs[f]? =some fn) (hN:fn.ntmps=N:=by exact rfl) (hr:fn.results.toList=rs:=by exact rfl) (hn:(fn.name== "runtime.NumGoroutine")=false:=by exact rfl)
 (hb:fn.body=some c:=by exact rfl) (hok:codeOk N c=true:=by exact rfl) (ha:args.length<=N:=by exact oT rfl) (hv:vc P N c (bH 0 args) [] (HP P rs post)):Fn P f args false post:=by
 subst hN;subst hr;exact Fn.Sv hf hn hb hok ha hv
attribute [go_sem] O2 DY DZ Ad wA
def TU:lA->AV
 | [x]=>.bq ⟨1,false⟩ [x] 0 0
 |xs=>.bq ⟨xs.length,true⟩ [.agg xs] 0 0
def Bh (m:Mem):lA->lA->Prop
 | [],[]=>True
 | .ptr l v 0 0::r,y::ys=>(∃xs,ah m l=some (.box v xs)/\aq xs=[]/\(∀x,x∈xs->fits ⟨1,false⟩ x)/\xs≠[]/\y=TU xs)/\Bh m r ys
 |_,_=>False
def HQ (P:Program) (rs:List ResultVar) (g:FuncId) (ys:lA):dc
 | .normal=>fun ts m=>aN P (fun xs=>∃ps,xs=[.cm g ps]/\Bh m ps ys) rs ts m []
 | .ret=>fun ts m=>aN P (fun xs=>∃ps,xs=[.cm g ps]/\Bh m ps ys) rs ts m []
 |_=>fun _ _=>False
theorem HR (P:Program) (rs:List ResultVar) (g:FuncId) (ys:lA) (ts:Env) (m:Mem):HQ P rs g ys .ret ts m=aN P (fun xs=>∃ps,xs=[.cm g ps]/\Bh m ps ys) rs ts m []:=rfl
attribute [go_sem] HR
theorem Sw (h:RS B N φ fp S ts m a w) {l v:Nat} {xs:lA} {u:Value} (hb:ah m l=some (.box v xs)) (hl:aq xs=[]) (hf:∀x,x∈xs->fits ⟨1,false⟩ x) (hne:xs≠[]) (hu:RV w S φ (.ptr l v 0 0) u):
 Rd w (fun b=>S b\/∃l,b∈fp l) (TU xs) u:=by
 obtain ⟨b,cs,e,sh,h1,h2,h3,h4,h5,h6⟩:=h.aF l _ hb;have hp:=jV hu b sh h1;rw [Nat.zero_mul,q20] at hp;subst hp;have hbS:S b\/∃l,b∈fp l:=.inr ⟨l,by rw [h2];simp⟩;have hrd:∀i (hi:i<xs.length),Rd w (fun b=>S b\/∃l,b∈fp l) xs[i] (cs.toList.getD i Go.undef):=fun i hi=>(cU (h6 i hi) (bM hl i hi)).mono (fun _ _=>rfl) fun _ h=>.inl h;match xs,hne,hf,h4,h5,hrd with
 | [x],_,hf,h4,h5,hrd=>
   refine .bq ⟨1,false⟩ [x] 0 0 b 0 cs _ _ hbS h3 (by simpa using h4) (fun i hi=>hf _ (List.getElem_mem hi)) fun i hi=> ?_;have:i=0:=by simp at hi;omega
   subst this;simpa [elemV] using hrd 0 (by simp)
 |x::y::r,_,hf,h4,h5,hrd=>
  have:=Rd.bq (w:=w) (S:=fun b=>S b\/∃l,b∈fp l) ⟨(x::y::r).length,true⟩ [.agg (x::y::r)] 0 0 b 0 cs _ _ hbS h3 (by simpa using h4) (fun i hi=>by
   have:i=0:=by simp at hi;omega
   subst this
   exact ⟨rfl,rfl⟩) (fun i hi=>by
   have:i=0:=by simp at hi;omega
   subst this;simp only [elemV,if_true,Nat.zero_mul,q20,List.drop_zero,List.getElem_cons_zero];refine .agg _ _ (by simp at h4 ⊢;omega) h5 fun i hi=> ?_;have:=hrd i hi;rw [q5] at this ⊢;rw [List.toList_toArray,List.getElem?_take,if_pos hi]
   exact this)
  rw [Nat.zero_mul] at this;exact this
theorem Jy (h:RS B N φ fp S ts m a w):∀(ps ys:lA) (us:List Value),us.length=ps.length->(∀i (hi:i<ps.length),RV w S φ ps[i] (us.getD i Go.undef))->Bh m ps ys->ys.length=ps.length/\∀i (hi:i<ys.length),Rd w (fun b=>S b\/∃l,b∈fp l) ys[i] (us.getD i Go.undef)
 | [],[],us,hl,_,_=>⟨rfl,fun i hi=>absurd hi (q19 _)⟩
 | .ptr l v 0 0::r,y::ys,[],hl,_,_=>absurd hl (by simp)
 | .ptr l v 0 0::r,y::ys,u::us,hl,hp,hk=>by
   obtain ⟨⟨xs,h1,h2,h3,h4,rfl⟩,hk⟩:=hk;obtain ⟨g1,g2⟩:=Jy h r ys us (by simpa using hl) (fun i hi=>by have:=hp (i+1) (by simpa using hi);rwa [List.getElem_cons_succ,List.getD_cons_succ] at this) hk;refine ⟨by simp [g1],fun i hi=> ?_⟩;cases i with
   |zero=>exact Sw h h1 h2 h3 h4 (hp 0 (by simp))
   |succ i=>
    rw [List.getElem_cons_succ,List.getD_cons_succ];exact g2 i (by simpa using hi)
end
theorem Fn.LC {P:Program} {f:FuncId} {fn:Func} {c:Code} {args:List AV} {g:FuncId} {ys:List AV} (hf:P.funcs[f]? =some fn) (hn:(fn.name== "runtime.NumGoroutine")=false) (hb:fn.body=some c)
 (hok:codeOk fn.ntmps c=true) (ha:args.length<=fn.ntmps) (hv:vc P fn.ntmps c (bH 0 args) [] (HQ P fn.results.toList g ys)):Fn P f args false (fun r=>r= .cm g ys):=by
 refine ⟨⟨fn,c,hf,hn,hb⟩,fun w S vs hS yZ hsz hrd=> ?_⟩;refine calls_of_wp hf hb ?_;have hRS:RS ⟨w,fun _ _=>False,S,fun _=>.dead,[]⟩ fn.ntmps (fun _=>.dead) (fun _=>[]) S (bH 0 args) [] {tmps:=vs++q2 (fn.ntmps-vs.size) undef,defers:=[]} w:=by
  have lS:∀t,(look (bH 0 args) t= .undef\/∃h:t<args.length,look (bH 0 args) t=args[t]):=by
   intro t;rw [bI];by_cases h:t<args.length
   . exact .inr ⟨h,by simp [h]⟩
   exact .inl (by simp [h])
  refine {tm:=fun t=> ?_,tl:=fun t l ae hl=> ?_,b7:=fun _ _=>⟨rfl,rfl⟩,aF:=fun l k hk=>(by cases hk),bl:=fun l v xs hk=>(by cases hk),gZ:=fun _=>q15,
          fI:=fun _ _ _ h=>(by cases h),bQ:=fun _ _ h=>(by cases h),cw:=fun _ _ h=>(by cases h),sB:=fun b hb=>⟨hS b hb,.inr hb⟩,base:=fun b hb _=>rfl,out:=a8.refl _,kj:=jD.refl _,kn:=fun _ _ _ hk=>hk,fix:=fun _ _ _ _=>LS.le_refl _ _,
          size:=q16 _,defers:=rfl,k6:=by simp;omega,js:=yZ}
  . rcases lS t with e|⟨h,e⟩
    . rw [e];exact .rd _ _ (.undef _)
    rw [e];have h1:=hrd t h;have:vs.toList.getD t Go.undef=(vs++q2 (fn.ntmps-vs.size) undef).getD t Go.undef:=by
     have h2:t<vs.size:=by omega
     simp only [q0,q5,Array.getElem?_toList];rw [Array.getElem?_append_left h2]
    rw [←this];exact .rd _ _ h1
  rcases lS t with e|⟨h,e⟩
  . rw [e] at hl;cases hl
  rw [e,fT (hrd t h)] at hl;cases hl
 have fR:∀a' w',hZ ⟨w,fun _ _=>False,S,fun _=>.dead,[]⟩ fn.ntmps (fun ts m=>aN P (fun xs=>∃ps,xs=[.cm g ps]/\Bh m ps ys) fn.results.toList ts m []) a' w'→
  a'.defers=[]/\∃v,(results fn a'.tmps).run P w'= .ok v w'/\∃r v',Ending.returned v= .returned v'/\r=AV.cm g ys/\Grown w w'/\iK w w' S false r v':=by
  rintro a' w' ⟨Dp,fp0,S0,ts',m0,h1,hk⟩;refine ⟨h1.defers,?_⟩;obtain ⟨zs,us,⟨ps,rfl,b6⟩,h2,h3,h4⟩:=cL h1 fn.results.toList [] [] ⟨rfl,fun i hi=>absurd hi (q19 _)⟩ (fun i hi=>absurd hi (q19 _)) hk;obtain ⟨h3a,h3b⟩:=h3;simp only [q14] at h3a h3b;obtain ⟨u,rfl⟩:∃u,us=[u]:=List.length_eq_one_iff.1 h3a;have hu:RV w' S0 Dp (.cm g ps) u:=h3b 0 (by simp);refine ⟨u,?_,_,u,rfl,rfl,⟨h1.size,fun b hb=>h1.base b hb (fun _ h=>h),h1.out⟩,?_⟩
  . have hm:results fn a'.tmps=(do let vs ←fn.results.mapM (cY a'.tmps);pure (if h:vs.size=1 then vs[0] else .tuple vs)):=by
     unfold results;congr 1
    rw [hm,Sem.run_bind,Array.mapM_eq_mapM_toList];have:(List.toArray <$> fn.results.toList.mapM (cY a'.tmps):Sem aV).run P w'= .ok #[u] w':=by rw [map_eq_pure_bind,Sem.run_bind,h2];rfl
    rw [this];rfl
  obtain ⟨cs,rfl,hcs,hcv⟩:∃cs:aV,u= .func (.func g) #[] cs/\cs.size=ps.length/\∀i (hi:i<ps.length),RV w' S0 Dp ps[i] (cs.toList.getD i Go.undef):=by
   cases hu with
   |rd _ _ h=>cases h with|cm _ _ cs q1 q2=>exact ⟨cs,rfl,q1,fun i hi=>.rd _ _ (q2 i hi)⟩
   |cm _ _ cs q1 q2=>exact ⟨cs,rfl,q1,q2⟩
  obtain ⟨g1,g2⟩:=Jy h1 ps ys cs.toList (by simpa using hcs) hcv b6;show Rd _ _ _ _;refine .cm g ys cs (by omega) fun i hi=>(g2 i hi).mono (fun _ _=>rfl) fun b hb=> ?_;rcases hb with hb|⟨l,hb⟩
  . rcases (h1.sB b hb).2 with hh|hh
    . exact .inr ⟨hh,(h1.sB b hb).1⟩
    exact .inl hh
  rcases (h1.cw l b hb).2 with hh|⟨_,hh,_⟩
  . exact .inr ⟨hh,(h1.cw l b hb).1⟩
  exact hh.elim
 refine wp_mono (cD c _ _ _ hok hv _ _ _ _ _ _ hRS) ?_;intro e a' w' hq;cases e with
 |normal=>exact fR a' w' hq
 |ret=>exact fR a' w' hq
 |_=>obtain ⟨_,_,_,_,_,_,hh⟩:=hq;exact hh.elim
theorem Fn.O3 {P:Program} {f:FuncId} {fn:Func} {c:Code} {args:List AV} {g:FuncId} {ys:List AV} (N:Nat) (rs:List ResultVar) (hf:P.funcs[f]? =some fn) (hN:fn.ntmps=N:=by exact rfl) (hr:fn.results.toList=rs:=by exact rfl) (hn:(fn.name== "runtime.NumGoroutine")=false:=by exact rfl)
 (hb:fn.body=some c:=by exact rfl) (hok:codeOk N c=true:=by exact rfl) (ha:args.length<=N:=by exact oT rfl) (hv:vc P N c (bH 0 args) [] (HQ P rs g ys)):Fn P f args false (fun r=>r= .cm g ys):=by
 subst hN;subst hr;exact Fn.LC hf hn hb hok ha hv
def qv (w w':World) (S:Nat->Prop) (sh:Sh) (zs:lA) (v:Value):Prop:=
 (zs=[]/\∃ad,v= .slice ad 0 0)\/∃b cap,v= .slice (some ⟨b,0,none⟩) zs.length cap/\w.heap.size<=b/\Own w' (fun c=>S c\/(w.heap.size<=c/\c<w'.heap.size/\c≠b)) (.arr sh zs) v [b]
def nQ (P:Program) (f:FuncId) (args:lA) (sh:Sh) (zs:lA):Prop:=
 Enters P f/\∀(w:World) (S:Nat->Prop) (vs:aV),(∀b,S b->b<w.heap.size)->J4 w S->vs.size=args.length->(∀i (h:i<args.length),Rd w S args[i] (vs.toList.getD i Go.undef))→
  Calls P f vs w fun e w'=>∃v,e= .returned v/\Grown w w'/\qv w w' S sh zs v
def CH (sh:Sh) (zs:lA) (m:Mem) (xs:lA):Prop:=
 (zs=[]/\xs=[.val (.slice none 0 0)])\/∃l v,xs=[.ref l v 0 zs.length]/\(ah m l=some (.row v sh false zs)\/(zs=[]/\ah m l=some (.row v sh true [])))
def HS (P:Program) (rs:List ResultVar) (sh:Sh) (zs:lA):dc
 | .normal=>fun ts m=>aN P (fun xs=>CH sh zs m xs) rs ts m []
 | .ret=>fun ts m=>aN P (fun xs=>CH sh zs m xs) rs ts m []
 |_=>fun _ _=>False
theorem HT (P:Program) (rs:List ResultVar) (sh:Sh) (zs:lA) (ts:Env) (m:Mem):HS P rs sh zs .ret ts m=aN P (fun xs=>CH sh zs m xs) rs ts m []:=rfl
attribute [go_sem] HT
theorem row_one {w:World} {S:Nat->Prop} {φ:Nat->LS} {l v:Nat} {sh:Sh} {deep:Bool} {fs:lN} {zs:lA} {u:Value} (h0:0<sh.sz) (hb:BR w S φ l fs (.row v sh deep zs)) (hd:deep=true->zs=[]) (hu:RV w S φ (.ref l v 0 zs.length) u):
 (zs=[]/\∃ad,u= .slice ad 0 0)\/∃b cap,u= .slice (some ⟨b,0,none⟩) zs.length cap/\fs=[b]/\Own w S (.arr sh zs) u [b]:=by
 have hr:=dm hu;rcases hb with ⟨h1,h2,h3⟩|⟨b,cap,hφ,hbm,hdp,bc⟩
 . exact .inl ⟨h2,(hr.2 h1).2⟩
 obtain ⟨ad,cp,rfl,hnc,hcp⟩:=hr.1 b sh hφ;obtain ⟨cs,e,fss,hgf,aD,hcs,b6,hmx,hff,hfl,hvv⟩:=gA bc hbm;rcases hcp with rfl|⟨rfl,cs',e',g1,g2⟩
 . have hz:zs=[]:=q4 (by omega);subst hz;exact .inl ⟨rfl,_,rfl⟩
 obtain rfl:=db (aD.symm.trans g1);have hcc:cap=cp:=Nat.eq_of_mul_eq_mul_right h0 (by rw [←hcs,g2,q20]);subst hcc;have hfs:fs=[b]:=by
  cases deep with
  |false=>exact hdp rfl
  |true=>
   have hz:=hd rfl;subst hz;have:fss=[]:=q4 (by simpa using hfl);rw [hgf,this];rfl
 refine .inr ⟨b,cap,by rw [Nat.zero_mul],hfs,?_⟩;subst hfs;have ho:Own w S (.arr sh zs) (.slice (some ⟨b,0,none⟩) zs.length cap) [b]:=by
  cases deep with
  |false=>exact bc
  |true=>exact bc.mono (fun _ h=>h.elim) (fun _ h=>h.elim) fun _ _=>rfl
 simpa using ho
theorem nQ.nb {P:Program} {f:FuncId} {fn:Func} {c:Code} {args:List AV} {sh:Sh} {zs:List AV} (h0:0<sh.sz) (hf:P.funcs[f]? =some fn) (hn:(fn.name== "runtime.NumGoroutine")=false) (hb:fn.body=some c)
 (hok:codeOk fn.ntmps c=true) (ha:args.length<=fn.ntmps) (hr1:fn.results.toList.length=1) (hv:vc P fn.ntmps c (bH 0 args) [] (HS P fn.results.toList sh zs)):nQ P f args sh zs:=by
 refine ⟨⟨fn,c,hf,hn,hb⟩,fun w S vs hS yZ hsz hrd=> ?_⟩;refine calls_of_wp hf hb ?_;have hRS:RS ⟨w,fun _ _=>False,S,fun _=>.dead,[]⟩ fn.ntmps (fun _=>.dead) (fun _=>[]) S (bH 0 args) [] {tmps:=vs++q2 (fn.ntmps-vs.size) undef,defers:=[]} w:=by
  have lS:∀t,(look (bH 0 args) t= .undef\/∃h:t<args.length,look (bH 0 args) t=args[t]):=by
   intro t;rw [bI];by_cases h:t<args.length
   . exact .inr ⟨h,by simp [h]⟩
   exact .inl (by simp [h])
  refine {tm:=fun t=> ?_,tl:=fun t l ae hl=> ?_,b7:=fun _ _=>⟨rfl,rfl⟩,aF:=fun l k hk=>(by cases hk),bl:=fun l v xs hk=>(by cases hk),gZ:=fun _=>q15,
          fI:=fun _ _ _ h=>(by cases h),bQ:=fun _ _ h=>(by cases h),cw:=fun _ _ h=>(by cases h),sB:=fun b hb=>⟨hS b hb,.inr hb⟩,base:=fun b hb _=>rfl,out:=a8.refl _,kj:=jD.refl _,kn:=fun _ _ _ hk=>hk,fix:=fun _ _ _ _=>LS.le_refl _ _,
          size:=q16 _,defers:=rfl,k6:=by simp;omega,js:=yZ}
  . rcases lS t with e|⟨h,e⟩
    . rw [e];exact .rd _ _ (.undef _)
    rw [e];have h1:=hrd t h;have:vs.toList.getD t Go.undef=(vs++q2 (fn.ntmps-vs.size) undef).getD t Go.undef:=by
     have h2:t<vs.size:=by omega
     simp only [q0,q5,Array.getElem?_toList];rw [Array.getElem?_append_left h2]
    rw [←this];exact .rd _ _ h1
  rcases lS t with e|⟨h,e⟩
  . rw [e] at hl;cases hl
  rw [e,fT (hrd t h)] at hl;cases hl
 have fR:∀a' w',hZ ⟨w,fun _ _=>False,S,fun _=>.dead,[]⟩ fn.ntmps (fun ts m=>aN P (fun xs=>CH sh zs m xs) fn.results.toList ts m []) a' w'→
  a'.defers=[]/\∃v,(results fn a'.tmps).run P w'= .ok v w'/\∃v',Ending.returned v= .returned v'/\Grown w w'/\qv w w' S sh zs v':=by
  rintro a' w' ⟨Dp,fp0,S0,ts',m0,h1,hk⟩;refine ⟨h1.defers,?_⟩;obtain ⟨ys,us,hq,h2,h3,h4⟩:=cL h1 fn.results.toList [] [] ⟨rfl,fun i hi=>absurd hi (q19 _)⟩ (fun i hi=>absurd hi (q19 _)) hk;obtain ⟨h3a,h3b⟩:=h3;simp only [q14] at h3a h3b;have hy1:ys.length=1:=by rcases hq with ⟨_,rfl⟩|⟨l,v,rfl,_⟩<;>rfl
  obtain ⟨u,rfl⟩:∃u,us=[u]:=List.length_eq_one_iff.1 (h3a.trans hy1);have hu:=h3b 0 (by omega);refine ⟨u,?_,u,rfl,⟨h1.size,fun b hb=>h1.base b hb (fun _ h=>h),h1.out⟩,?_⟩
  . have hm:results fn a'.tmps=(do let vs ←fn.results.mapM (cY a'.tmps);pure (if h:vs.size=1 then vs[0] else .tuple vs)):=by
     unfold results;congr 1
    rw [hm,Sem.run_bind,Array.mapM_eq_mapM_toList];have:(List.toArray <$> fn.results.toList.mapM (cY a'.tmps):Sem aV).run P w'= .ok #[u] w':=by rw [map_eq_pure_bind,Sem.run_bind,h2];rfl
    rw [this];rfl
  rcases hq with ⟨hz,rfl⟩|⟨l,v,rfl,hl⟩
  . have hu:RV w' S0 Dp (.val (.slice none 0 0)) u:=hu;obtain ⟨rfl,_⟩:=aS hu;exact .inl ⟨hz,_,rfl⟩
  have hu:RV w' S0 Dp (.ref l v 0 zs.length) u:=hu;have key:∀deep,ah m0 l=some (.row v sh deep zs)->(deep=true->zs=[])->qv w w' S sh zs u:=by
   intro deep hlk hd;rcases row_one h0 (h1.aF l _ hlk) hd hu with ⟨hz,hn⟩|⟨b,cap,rfl,hfs,ho⟩
   . exact .inl ⟨hz,hn⟩
   have hbf:b∈fp0 l:=by rw [hfs];simp
   refine .inr ⟨b,cap,rfl,?_,ho.mono (fun _ _=>rfl) (fun c hc=> ?_) fun _ _=>rfl⟩
   . rcases (h1.cw l b hbf).2 with hh|⟨_,hh,_⟩
     . exact hh
     exact hh.elim
   rcases (h1.sB c hc).2 with hh|hh
   . exact .inr ⟨hh,(h1.sB c hc).1,fun e=>h1.bQ l b hbf (e▸hc)⟩
   exact .inl hh
  rcases hl with hl|⟨hz,hl⟩
  . exact key false hl (fun h=>by cases h)
  exact key true (by rw [hz];exact hl) (fun _=>hz)
 refine wp_mono (cD c _ _ _ hok hv _ _ _ _ _ _ hRS) ?_;intro e a' w' hq;cases e with
 |normal=>exact fR a' w' hq
 |ret=>exact fR a' w' hq
 |_=>obtain ⟨_,_,_,_,_,_,hh⟩:=hq;exact hh.elim
theorem nQ.dK {P:Program} {f:FuncId} {fn:Func} {c:Code} {args:List AV} {sh:Sh} {zs:List AV} (N:Nat) (rs:List ResultVar) (hf:P.funcs[f]? =some fn) (hN:fn.ntmps=N:=by exact rfl) (hr:fn.results.toList=rs:=by exact rfl) (hn:(fn.name== "runtime.NumGoroutine")=false:=by exact rfl)
 (hb:fn.body=some c:=by exact rfl) (hok:(codeOk N c&&(decide (0<sh.sz)&&decide (rs.length=1)))=true:=by exact rfl) (ha:args.length<=N:=by exact oT rfl) (hv:vc P N c (bH 0 args) [] (HS P rs sh zs)):nQ P f args sh zs:=by
 simp only [Bool.and_eq_true,decide_eq_true_eq] at hok;subst hN;subst hr;exact nQ.nb hok.2.1 hf hn hb hok.1 ha hok.2.2 hv
theorem nQ.io {P:Program} {f:FuncId} {xs:lA} {sh:Sh} {zs:lA} (h0:0<sh.sz) (h:nQ P f xs sh zs) (hl:aq xs=[]) (l:Nat) (hio:l<bE) {m:Mem} {k:AV->Mem->Prop}
 (hk:k (.ref l (az m l) 0 zs.length) ((l,.row (az m l) sh false zs)::m)):gY P f xs m k:=by
 intro B N φ fp S ts a w vs hR hsz hx hxl;refine ⟨h.1,(h.2 w S vs (fun b hb=>(hR.sB b hb).1) hR.js hsz fun i hi=>cU (hx i hi) (bM hl i hi)).mono ?_⟩;rintro e w' ⟨v,rfl,hg,j4⟩;refine ⟨v,rfl,?_⟩;have hR1:=hR.grown hg;have fG:∀ae,known m l ae->ae<az m l:=by rintro ae ⟨k0,h1,h2⟩;unfold az;rw [h1];exact Nat.lt_succ_of_le h2
 have hkn:known ((l,.row (az m l) sh false zs)::m) l (az m l):=⟨_,by rw [aw,if_pos rfl],q16 _⟩;rcases j4 with ⟨rfl,ad,rfl⟩|⟨b,cap,rfl,hb,bc⟩
 . have hR2:=hR1.next l (.nil (az m l)) [] S (.row (az m l) sh false []) (q16 _) (a8.refl _) (jD.refl _) (fun _ _ _=>rfl) (fun c hc=>⟨hc,rfl⟩) (fun c h1 h2=>absurd h1 h2) (fun l b sh ae cs e _ hb=>⟨cs,e,hb,rfl⟩)
    (fun _ _ _ _=>rfl) (fun ae hk=>⟨fun _ _ e=>(by cases e),fun e=>by cases e;exact absurd (fG _ hk) (Nat.lt_irrefl _)⟩) (fun ae hk=>Nat.le_of_lt (fG ae hk)) (.inl ⟨by rw [aB],rfl,rfl⟩) (fun _ _ hk=>by cases hk) q15 (fun c hc=>by cases hc)
   exact ⟨_,_,_,_,_,_,hR2,.ref l _ 0 0 _ (fun b sh e=>by rw [aB] at e;cases e) (fun _=>⟨rfl,ad,rfl⟩) rfl,fun l' ae hl'=>by simp only [an,List.mem_singleton,Prod.mk.injEq] at hl';obtain ⟨rfl,rfl⟩:=hl';exact hkn,rfl,hk⟩
 obtain ⟨cs,e,fss,hgf,aD,hcs,b6,hmx,hff,hfl,hvv⟩:=gA bc (by simp);have hbw:b<w'.heap.size:=(q1.1 aD).1
 have hR2:=hR1.next l (.at b sh (az m l)) [b] (fun c=>S c\/(w.heap.size<=c/\c<w'.heap.size/\c≠b)) (.row (az m l) sh false zs) (q16 _) (a8.refl _) (jD.refl _) (fun _ _ _=>rfl) (fun c hc=>⟨.inl hc,rfl⟩)
  (fun c h1 h2=>by
    rcases h1 with h1|⟨h1,h3,h4⟩
    . exact absurd h1 h2
    exact ⟨h3,.inl (q17 hR.size h1),fun l' _ hc=>by have:=(hR.cw l' c hc).1;omega⟩)
  (fun l b sh ae cs e _ hb=>⟨cs,e,hb,rfl⟩) (fun _ _ _ _=>rfl)
  (fun ae hk=>LS.kz _ _ _ _ _ (fG ae hk)) (fun ae hk=>Nat.le_of_lt (fG ae hk))
  (.inr ⟨b,cap,by rw [aB],by simp,fun _=>rfl,bc⟩) (fun _ _ hk=>by cases hk) (by simp)
  (fun c hc=>by
    rw [List.mem_singleton] at hc;subst hc;refine ⟨?_,fun l' _ hc=> ?_,hbw,.inl (q17 hR.size hb)⟩
    . rintro (h1|⟨_,_,h1⟩)
      . have:=(hR.sB c h1).1;omega
      exact h1 rfl
    have:=(hR.cw l' c hc).1;omega)
 refine ⟨_,_,_,_,_,_,hR2,.ref l _ 0 _ _ (fun b' sh' e'=> ?_) (fun e'=>by rw [aB] at e';cases e') rfl,fun l' ae hl'=>by simp only [an,List.mem_singleton,Prod.mk.injEq] at hl';obtain ⟨rfl,rfl⟩:=hl';exact hkn,rfl,hk⟩;rw [aB] at e';cases e';exact ⟨_,cap,rfl,b6,.inr ⟨by rw [Nat.zero_mul],cs,e,aD,by rw [hcs,q20]⟩⟩
theorem kL {P:Program} {f:FuncId} {d:Nat} {xs ts:lA} {m:Mem} {k:AV->Mem->Prop} {q:Pack k} {sh:Sh} {zs:lA} (h:nQ P f xs sh zs) (h0:0<sh.sz) (hl:aq xs=[]) (hio:1000*(d+1)<bE)
 (hk:k (.ref (1000*(d+1)) (az m (1000*(d+1))) 0 zs.length) ((1000*(d+1),.row (az m (1000*(d+1))) sh false zs)::m)):iQ P f d xs ts m k q:=by
 refine .inr (.inr ⟨.ref (1000*(d+1)) (az m (1000*(d+1))) 0 zs.length,[(1000*(d+1),.row (az m (1000*(d+1))) sh false zs)],hk,fun m' _ hm' k' hk'=> ?_⟩);have e:az m' (1000*(d+1))=az m (1000*(d+1)):=by unfold az;rw [hm' (1000*(d+1)) (by show ah [_] _≠none;rw [aw,if_pos rfl];exact fun e=>by cases e)]
 exact h.io h0 hl _ hio (by rw [e];exact hk')
theorem rJ.row {P:Program} {f:FuncId} (v:Nat) (xs ys:lA) (hlen:ys.length=xs.length) (ss:bn xs=true) (hfy:∀i (h:i<ys.length),fits ⟨1,false⟩ ys[i]) (hE:Enters P f)
 (hc:∀(w:World) (b cap:Nat) (cs:aV) (e:El),w.heap[b]? =some (eo cs e)->cs.size=cap->xs.length<=cap->(∀i (h:i<xs.length),Rd w (fun _=>False) xs[i] (cs.toList.getD i Go.undef))→
   Calls P f #[.slice (some ⟨b,0,none⟩) xs.length cap] w fun e' w'=>e'= .returned (.tuple #[])/\∃cs':aV,cs'.size=cs.size/\(∀i (h:i<ys.length),Rd w' (fun _=>False) ys[i] (cs'.toList.getD i Go.undef))∧
    w'.heap[b]? =some (eo cs' e)/\(∀c:Nat,c≠b->c<w.heap.size->w'.heap[c]? =w.heap[c]?)/\w.heap.size<=w'.heap.size/\a8 w w')
 (h0:xs=[]->∀(a:Option Addr) (w:World),Calls P f #[.slice a 0 0] w fun e' w'=>e'= .returned (.tuple #[])/\Grown w w'):
 rJ P f [.row v ⟨1,false⟩ true xs] [.ref 1000000000 v 0 xs.length] (fun r io=>r= .aX []/\io=[.row v ⟨1,false⟩ true ys]):=by
 refine ⟨hE,fun w φ fp S vs hsz hR=> ?_⟩;have hv0:=hR.tm 0;have hlk:ah (l7 0 [bj.row v ⟨1,false⟩ true xs]) bE=some (.row v ⟨1,false⟩ true xs):=rfl;obtain ⟨u,rfl⟩:∃u,vs= #[u]:=by have:vs.size=1:=hsz;exact ⟨vs[0],by apply Array.ext<;>simp_all⟩
 have hx:RV w S φ (.ref 1000000000 v 0 xs.length) u:=hv0;obtain ⟨r1,r2⟩:=dm hx
 have fin:∀(w':World) (fp':Nat->lN) (k:bj),k= .row v ⟨1,false⟩ true ys->RS (Hb w φ fp S [.row v ⟨1,false⟩ true xs]) (#[u]:aV).size φ fp' S (bH 0 [.ref 1000000000 v 0 xs.length]) ((bE,k)::l7 0 [.row v ⟨1,false⟩ true xs]) {tmps:= #[u],defers:=[]} w'→
  ∃r v' io' φ' fp' S' m',Ending.returned (Value.tuple #[])= .returned v'/\(r= .aX []/\io'=[bj.row v ⟨1,false⟩ true ys])/\RS (Hb w φ fp S [.row v ⟨1,false⟩ true xs]) 0 φ' fp' S' [] m' {tmps:= #[],defers:=[]} w'/\KH [.row v ⟨1,false⟩ true xs] io' m'∧
   ∃fs,Own w' (fun _=>False) r v' fs/\fs.Nodup/\∀b,b∈fs->w.heap.size<=b/\¬S' b/\∀l,bE<=l->b∉fp' l:=by
  rintro w' fp' k rfl h;refine ⟨.aX [],.tuple #[],_,φ,fp',S,_,rfl,⟨rfl,rfl⟩,{h with tm:=fun t=>by rw [look_nil];exact .rd _ _ (.undef _),tl:=fun t l ae hl=>(by rw [look_nil] at hl;cases hl),defers:=rfl,k6:=rfl},⟨rfl,fun j hj hj'=> ?_⟩,[],.rd _ _ (.aX [] #[] rfl fun i hi=>absurd hi (q19 _)),q15,fun b hb=>by cases hb⟩;have:j=0:=by simpa using hj
  subst this;exact ⟨by simp [aw],rfl,trivial⟩
 have nilCase:xs=[]->(∃a,u= .slice a 0 0)->Calls P f #[u] w fun e' w'=>∃r v' io' φ' fp' S' m',e'= .returned v'/\(r= .aX []/\io'=[bj.row v ⟨1,false⟩ true ys])/\RS (Hb w φ fp S [.row v ⟨1,false⟩ true xs]) 0 φ' fp' S' [] m' {tmps:= #[],defers:=[]} w'/\KH [.row v ⟨1,false⟩ true xs] io' m'∧
       ∃fs,Own w' (fun _=>False) r v' fs/\fs.Nodup/\∀b,b∈fs->w.heap.size<=b/\¬S' b/\∀l,bE<=l->b∉fp' l:=by
  rintro h1 ⟨a,rfl⟩;have hy:ys=[]:=q4 (by rw [hlen,h1];rfl);refine (h0 h1 a w).mono ?_;rintro e' w' ⟨rfl,hg⟩;have hR2:=hR.grown hg;refine fin w' fp (.row v ⟨1,false⟩ true ys) rfl ?_;have e1:ah (l7 0 [bj.row v ⟨1,false⟩ true xs])=ah ((bE,.row v ⟨1,false⟩ true ys)::l7 0 [.row v ⟨1,false⟩ true xs]):=by
   funext l;rw [aw];split
   . rename_i e;subst e;rw [hlk,h1,hy]
   rfl
  have kn:∀l ae,known (l7 0 [bj.row v ⟨1,false⟩ true xs]) l ae->known ((bE,.row v ⟨1,false⟩ true ys)::l7 0 [.row v ⟨1,false⟩ true xs]) l ae:=by rintro l ae ⟨k',q1,q2⟩;exact ⟨k',by rw [←e1];exact q1,q2⟩
  exact {hR2 with tl:=fun t l ae hl=>kn l ae (hR2.tl t l ae hl),b7:=fun l hl=>hR2.b7 l (by rw [e1];exact hl),aF:=fun l k hk=>hR2.aF l k (by rw [e1];exact hk),bl:=fun l v xs hb l' ae hl=>kn l' ae (hR2.bl l v xs (by rw [e1];exact hb) l' ae hl),kn:=fun l ae h1 h2=>kn l ae (hR2.kn l ae h1 h2)}
 rcases hR.aF bE _ hlk with ⟨hφ,hxs,_⟩|⟨b,cap,hφ,hbm,_,bc⟩
 . exact nilCase hxs (r2 hφ).2
 simp only [if_true] at bc;obtain ⟨a,cap',rfl,hn,hcp⟩:=r1 b _ hφ;rcases hcp with rfl|⟨rfl,cs0,e0,hh0,hs0⟩
 . have hx0:xs=[]:=q4 (by omega);exact nilCase hx0 ⟨a,by rw [hx0];rfl⟩
 rcases ka bc with ⟨hx0,hf0,_⟩|⟨b',cap2,cs,e,fss,q1,hgf,aD,hcs,b6,hmx,hff,hfl,hvv⟩
 . rw [hf0] at hbm;cases hbm
 simp only [Value.slice.injEq,Option.some.injEq,Addr.mk.injEq] at q1;obtain ⟨⟨rfl,_⟩,_,rfl⟩:=q1;rw [aD] at hh0;simp only [Option.some.injEq,Obj.cells.injEq] at hh0;obtain ⟨rfl, -, -⟩:=hh0;simp only [Nat.mul_one,q20] at hs0 hcs;have hfe:∀i (h:i<xs.length),Rd w (fun _=>False) xs[i] (cs.toList.getD i Go.undef)/\fss.getD i []=[]:=by intro i hi;have:=fw (S':=fun _=>False) (hvv i hi) (jF ss i hi);rw [bg,Nat.mul_one] at this;exact this
 have hfs:fss.flatten=[]:=List.flatten_eq_nil_iff.2 fun l hl=>by
  obtain ⟨i,hi,rfl⟩:=q9 hl;have:=(hfe i (hfl▸hi)).2
  rwa [q5,q6 hi] at this
 rw [hfs] at hgf;refine (hc w b cap' cs e aD hs0 hn fun i hi=>(hfe i hi).1).mono ?_;rintro e' w' ⟨rfl,cs',hs',hr',hb',vB,nT,zx⟩;have hbl:=(hR.cw bE b (by rw [hgf];simp)).1;have hnx:=hR.next (w':=w') bE (φ bE) (fp bE) S (.row v ⟨1,false⟩ true ys) nT zx ?_ ?_ ?_ (fun c h1 h2=>absurd h1 h2) ?_ ?_ (fun ae _=>LS.le_refl _ _) ?_ ?_ (fun _ _ hk=>by cases hk) (hR.gZ bE) ?_
 . have e1:nJ φ bE (φ bE)=φ:=by funext l;by_cases e:l=bE<;>simp [nJ,e]
   rw [e1] at hnx;exact fin w' _ _ rfl hnx
 . intro c cs2 e2 hc2;by_cases ec:c=b
   . subst ec;obtain rfl:=db (aD.symm.trans hc2);exact ⟨cs',e,hb',hs'⟩
   exact ⟨cs2,e2,by rw [vB c ec (q1.1 hc2).1];exact hc2,rfl⟩
 . intro c hcl hio;exact vB c (fun ec=>hio bE (by subst ec;show c∈fp bE;rw [hgf];simp)) hcl
 . intro c hcS;exact ⟨hcS,vB c (fun ec=>hR.bQ bE b (by rw [hgf];simp) (ec▸hcS)) (hR.sB c hcS).1⟩
 . intro l c sh ae cs2 e2 _ hc2;by_cases ec:c=b
   . subst ec;obtain rfl:=db (aD.symm.trans hc2);exact ⟨cs',e,hb',hs'⟩
   exact ⟨cs2,e2,by rw [vB c ec (q1.1 hc2).1];exact hc2,rfl⟩
 . intro l' hl' c hcl;exact vB c (fun ec=>hl' (hR.fI l' bE c hcl (by rw [ec,hgf];simp))) (hR.cw l' c hcl).1
 . rintro ae ⟨k',q1,q2⟩;rw [hlk] at q1;cases q1;exact q2
 . refine .inr ⟨b,cap,by rw [aB];exact hφ,by rw [hgf];simp,fun h=>(by cases h),?_⟩;rw [hgf];have e2:[b]=b::(List.replicate ys.length ([]:lN)).flatten:=by
    congr 1;exact (List.flatten_eq_nil_iff.2 fun l hl=>(List.mem_replicate.1 hl).2).symm
   show Own w' (fun _=>False) _ _ [b];rw [e2];refine .arr ⟨1,false⟩ ys b cap cs' e _ hb' (by rw [hs',hcs];simp) (by omega) hmx hfy (by simp) fun i hi=> ?_;have e3:(List.replicate ys.length ([]:lN)).getD i []=[]:=by simp [q5,hi]
   rw [e3,bg,Nat.mul_one];exact .rd _ _ (hr' i hi)
 intro c hc2;have:=hR.cw bE c hc2;exact ⟨hR.bQ bE c hc2,fun l' hl' hc'=>hl' (hR.fI l' bE c hc' hc2),q18 this.1 nT,this.2⟩
open Go.Sort
theorem xK:∀zs:lI,bn (zs.map fun n=>AV.val (.int .i64 n))=true
 | []=>rfl
 |_::r=>by rw [List.map_cons,mM,xK r];rfl
theorem E2 {w:World} {b:Nat} {cs:aV} {e:El} {zs:lI} (hb:w.heap[b]? =some (eo cs e)) (b6:zs.length<=cs.size)
 (hrd:∀i (h:i<(zs.map fun n=>AV.val (.int .i64 n)).length),Rd w (fun _=>False) (zs.map fun n=>AV.val (.int .i64 n))[i] (cs.toList.getD i Go.undef)):Holds (Value.int .i64) w b 0 zs.toArray:=by
 intro j hj;have hj':j<zs.length:=by simpa using hj
 have h1:=hrd j (by simpa using hj');rw [List.getElem_map] at h1;have h2:cs.toList.getD j Go.undef= .int .i64 zs[j]:=by generalize cs.toList.getD j Go.undef=u at h1;cases h1;rfl
 have h3:j<cs.size:=by omega
 have h5:cs[j]? =some (.int .i64 zs[j]):=by rw [q5,Array.getElem?_toList,Array.getElem?_eq_getElem h3] at h2;rw [Array.getElem?_eq_getElem h3];exact congrArg some h2
 have h6:zs.toArray[j]! =zs[j]:=by rw [getElem!_pos zs.toArray j hj];simp
 refine ⟨?_,?_⟩
 . simp only [World.cell?,hb,q20,Option.isSome_none,q3,↓reduceIte,h5,h6]
 have:=l8 hb h3;simpa using this
theorem Bi {w:World} {b n:Nat} {cs:aV} {e:El} {ys:lI} {os:Array Obj} (hb:w.heap[b]? =some (eo cs e)) (hcs:ys.length<=cs.size):
 ∃cs':aV,cs'.size=cs.size/\(∀i (h:i<(ys.map fun n=>AV.val (.int .i64 n)).length),Rd (grow (putRow (Value.int .i64) (Sort.ahead w n) b 0 ys.toArray) os) (fun _=>False) (ys.map fun n=>AV.val (.int .i64 n))[i] (cs'.toList.getD i Go.undef))∧
  (grow (putRow (Value.int .i64) (Sort.ahead w n) b 0 ys.toArray) os).heap[b]? =some (eo cs' e)/\(∀c:Nat,c≠b->c<w.heap.size->(grow (putRow (Value.int .i64) (Sort.ahead w n) b 0 ys.toArray) os).heap[c]? =w.heap[c]?)∧
  w.heap.size<=(grow (putRow (Value.int .i64) (Sort.ahead w n) b 0 ys.toArray) os).heap.size/\a8 w (grow (putRow (Value.int .i64) (Sort.ahead w n) b 0 ys.toArray) os):=by
 have hbl:b<w.heap.size:=(q1.1 hb).1;have aD:∀c:Nat,c<w.heap.size->(grow (putRow (Value.int .i64) (Sort.ahead w n) b 0 ys.toArray) os).heap[c]? =if b=c then w.heap[c]?.map (onCells (putCells (Value.int .i64) 0 ys.toArray)) else w.heap[c]? :=by intro c hc;rw [heap_grow_old _ _ (by simpa using hc)];simp only [putRow,mapBlock,Sort.heap_ahead,Array.getElem?_modify]
 refine ⟨putCells (Value.int .i64) 0 ys.toArray cs,by simp [putCells],?_,?_,?_,?_,⟨rfl,rfl,rfl⟩⟩
 . intro i hi;have hi':i<ys.length:=by simpa using hi
   have hi2:i<cs.size:=by omega
   have e1:(putCells (Value.int .i64) 0 ys.toArray cs).toList.getD i Go.undef= .int .i64 ys[i]:=by rw [q5,Array.getElem?_toList];simp [putCells,hi2,hi']
   rw [e1,List.getElem_map];exact .val _ rfl
 . have hs:(putCells (Value.int .i64) 0 ys.toArray cs).size=cs.size:=by simp [putCells]
   rw [aD b hbl,if_pos rfl,hb];show some (Obj.cells (putCells (Value.int .i64) 0 ys.toArray cs) e.1 (nU e cs.size))=some (Obj.cells (putCells (Value.int .i64) 0 ys.toArray cs) e.1 (nU e (putCells (Value.int .i64) 0 ys.toArray cs).size));rw [hs]
 . intro c hcb hc;rw [aD c hc,if_neg (Ne.symm hcb)]
 simp
theorem rJ.Sx {P:Program} {f:FuncId} (hE:Enters P f) (g:lI->lI) (hg:∀zs,(g zs).length=zs.length)
 (hs:∀(pd cap:Nat) (zs:lI) (w:World),Holds (Value.int .i64) w pd 0 zs.toArray->pd<w.heap.size->zs.length<4611686018427387904→
   Calls P f #[.slice (some ⟨pd,0,none⟩) zs.length cap] w fun e w'=>e= .returned (.tuple #[])/\∃n os,w'=grow (putRow (Value.int .i64) (Sort.ahead w n) pd 0 (g zs).toArray) os)
 (h0:∀(a:Option Addr) (w:World),Calls P f #[.slice a 0 0] w fun e w'=>e= .returned (.tuple #[])/\w'=w)
 (v:Nat) (zs:lI) (hz:zs.length<=1048576):
 rJ P f [.row v ⟨1,false⟩ true (zs.map fun n=>.val (.int .i64 n))] [.ref 1000000000 v 0 zs.length] (fun r io=>r= .aX []/\io=[.row v ⟨1,false⟩ true ((g zs).map fun n=>.val (.int .i64 n))]):=by
 have:=rJ.row (P:=P) (f:=f) v (zs.map fun n=>AV.val (.int .i64 n)) ((g zs).map fun n=>AV.val (.int .i64 n)) (by simp [hg])
  (xK zs) (by intro i hi;simp [fits]) hE ?_ ?_
 . simpa using this
 . intro w b cap cs e hb hcs b6 hrd;have h4:(zs.map fun n=>AV.val (.int .i64 n)).length=zs.length:=List.length_map _;have h1:=hs b cap zs w (E2 hb (by omega) hrd) (q1.1 hb).1 (by omega);rw [List.length_map];refine h1.mono ?_;rintro e' w' ⟨rfl,n,os,rfl⟩;exact ⟨rfl,Bi hb (by rw [hg];omega)⟩
 intro hx a w;refine (h0 a w).mono ?_;rintro e' w' ⟨rfl,rfl⟩;exact ⟨rfl,Grown.refl _⟩
section
variable {P:Program} {m:Mem}
theorem E3 {f:FuncId} {l ae j:Nat} {xs ys:lA} {k:AV->Mem->Prop} (hE:Enters P f) (hlk:ah m l=some (.row ae ⟨1,false⟩ true xs)) (ss:bn xs=true) (hlen:ys.length=xs.length) (hj:j<=xs.length)
 (hfy:∀i (h:i<ys.length),fits ⟨1,false⟩ ys[i])
 (hc:∀(w:World) (b cap:Nat) (cs:aV) (e:El),w.heap[b]? =some (eo cs e)->cs.size=cap->xs.length<=cap->(∀i (h:i<xs.length),Rd w (fun _=>False) xs[i] (cs.toList.getD i Go.undef))→
   Calls P f #[.slice (some ⟨b,0,none⟩) xs.length cap] w fun e' w'=>e'= .returned (.slice (some ⟨b,0,none⟩) j cap)/\∃cs':aV,cs'.size=cs.size/\(∀i (h:i<ys.length),Rd w' (fun _=>False) ys[i] (cs'.toList.getD i Go.undef))∧
    w'.heap[b]? =some (eo cs' e)/\(∀c:Nat,c≠b->c<w.heap.size->w'.heap[c]? =w.heap[c]?)/\w.heap.size<=w'.heap.size/\a8 w w')
 (h0:xs=[]->∀(a:Option Addr) (w:World),Calls P f #[.slice a 0 0] w fun e' w'=>e'= .returned (.slice a 0 0)/\Grown w w')
 (hk:k (.ref l (ae+1) 0 j) ((l,.row (ae+1) ⟨1,false⟩ true ys)::m)):gY P f [.ref l ae 0 xs.length] m k:=by
 refine fun B N φ fp S ts a w vs hR hsz hx hxl=>⟨hE,?_⟩;obtain ⟨u,rfl⟩:∃u,vs= #[u]:=by have:vs.size=1:=hsz;exact ⟨vs[0],by apply Array.ext<;>simp_all⟩
 have hx0:RV w S φ (.ref l ae 0 xs.length) u:=hx 0 (by simp);obtain ⟨r1,r2⟩:=dm hx0;have fG:∀v',known m l v'->v'<ae+1:=by rintro v' ⟨k',h1,h2⟩;rw [hlk] at h1;cases h1;exact Nat.lt_succ_of_le h2
 have nilCase:xs=[]->(∃a',u= .slice a' 0 0)->Calls P f #[u] w fun e' w'=>∃v,e'= .returned v/\im B N a (fun x ts' m'=>ts'=ts/\k x m') v w':=by
  rintro h1 ⟨a',rfl⟩;have hy:ys=[]:=q4 (by rw [hlen,h1];rfl);have hj0:j=0:=by rw [h1] at hj;simpa using hj
  refine (h0 h1 a' w).mono ?_;rintro e' w' ⟨rfl,hg⟩;refine ⟨_,rfl,(hR.grown hg).rk fG (nv:=ae+1) (sh:=⟨1,false⟩) (deep:=true) ⟨rfl,?_⟩⟩;rw [hy,hj0] at hk;exact hk
 rcases hR.aF l _ hlk with ⟨hφ,hxs,_⟩|⟨b,cap,hφ,hbm,_,bc⟩
 . exact nilCase hxs (r2 hφ).2
 simp only [if_true] at bc;obtain ⟨ad,cap',rfl,hn,hcp⟩:=r1 b _ hφ;rcases hcp with rfl|⟨rfl,cs0,e0,hh0,hs0⟩
 . have hx1:xs=[]:=q4 (by omega);exact nilCase hx1 ⟨ad,by rw [hx1];rfl⟩
 rcases ka bc with ⟨hx1,hf0,_⟩|⟨b',cap2,cs,e,fss,q1,hgf,aD,hcs,b6,hmx,hff,hfl,hvv⟩
 . rw [hf0] at hbm;cases hbm
 simp only [Value.slice.injEq,Option.some.injEq,Addr.mk.injEq] at q1;obtain ⟨⟨rfl,_⟩,_,rfl⟩:=q1;rw [aD] at hh0;simp only [Option.some.injEq,Obj.cells.injEq] at hh0;obtain ⟨rfl, -, -⟩:=hh0;simp only [Nat.mul_one,q20] at hs0 hcs;have hfe:∀i (h:i<xs.length),Rd w (fun _=>False) xs[i] (cs.toList.getD i Go.undef)/\fss.getD i []=[]:=by intro i hi;have:=fw (S':=fun _=>False) (hvv i hi) (jF ss i hi);rw [bg,Nat.mul_one] at this;exact this
 have hfs:fss.flatten=[]:=List.flatten_eq_nil_iff.2 fun l hl=>by
  obtain ⟨i,hi,rfl⟩:=q9 hl;have:=(hfe i (hfl▸hi)).2
  rwa [q5,q6 hi] at this
 rw [hfs] at hgf;rw [show (0:Nat)*(1:Nat)=0 from rfl];refine (hc w b cap' cs e aD hs0 hn fun i hi=>(hfe i hi).1).mono ?_;rintro e' w' ⟨rfl,cs',hs',hr',hb',vB,nT,zx⟩;have hbl:b<w.heap.size:=(q1.1 aD).1;have Df:jD w w':=by
  intro c cs2 e2 hc2;by_cases ec:c=b
  . subst ec;obtain rfl:=db (aD.symm.trans hc2);exact ⟨cs',e,hb',hs'⟩
  exact ⟨cs2,e2,by rw [vB c ec (q1.1 hc2).1];exact hc2,rfl⟩
 refine ⟨_,rfl,hR.kb (b:=b) (cap:=cap) (n:=j) (nv:=ae+1) (sh:=⟨1,false⟩) (deep:=true) (xs:=ys) (fs:=[b]) nT zx Df vB
  (fun l b sh ae cs e _ hb=>Df b cs e hb) (.inl hbm) fG (fun c hc=>.inl (by simpa using hc)) (by simp) (fun h=>(by cases h)) (by simp) ?_ ?_ ⟨rfl,hk⟩⟩
 . have e2:[b]=b::(List.replicate ys.length ([]:lN)).flatten:=by
    congr 1;exact (List.flatten_eq_nil_iff.2 fun l hl=>(List.mem_replicate.1 hl).2).symm
   show Own w' (fun _=>False) _ _ [b];rw [e2];refine .arr ⟨1,false⟩ ys b cap cs' e _ hb' (by rw [hs',hcs];simp) (by omega) hmx hfy (by simp) fun i hi=> ?_;have e3:(List.replicate ys.length ([]:lN)).getD i []=[]:=by simp [q5,hi]
   rw [e3,bg,Nat.mul_one];exact .rd _ _ (hr' i hi)
 exact ⟨some ⟨b,0,none⟩,cap',rfl,by omega,.inr ⟨rfl,cs',e,hb',by rw [hs',hs0];simp⟩⟩
theorem rU {f:FuncId} {l ae n:Nat} {zs ys:lI} {k:AV->Mem->Prop} (j:Nat) (hE:Enters P f) (hlk:ah m l=some (.row ae ⟨1,false⟩ true (zs.map fun n=>.val (.int .i64 n)))) (hn:n=zs.length) (hlen:ys.length=zs.length) (hj:j<=zs.length)
 (hz:zs.length<=1048576)
 (hc:∀(pd cap:Nat) (w:World),Holds (Value.int .i64) w pd 0 zs.toArray->zs.length<=cap→
   Calls P f #[.slice (some ⟨pd,0,none⟩) zs.length cap] w fun e' w'=>e'= .returned (.slice (some ⟨pd,0,none⟩) j cap)/\∃q,w'=putRow (Value.int .i64) (Sort.ahead w q) pd 0 ys.toArray)
 (h0:∀(a:Option Addr) (w:World),Calls P f #[.slice a 0 0] w fun e' w'=>e'= .returned (.slice a 0 0)/\w'=w)
 (hk:k (.ref l (ae+1) 0 j) ((l,.row (ae+1) ⟨1,false⟩ true (ys.map fun n=>.val (.int .i64 n)))::m)):gY P f [.ref l ae 0 n] m k:=by
 have h4:(zs.map fun n=>AV.val (.int .i64 n)).length=zs.length:=List.length_map _;rw [hn,←h4];refine E3 hE hlk (xK zs) (ys:=ys.map fun n=>.val (.int .i64 n)) (j:=j) (by simp [hlen]) (by omega) (by intro i hi;simp [fits]) ?_ ?_ hk
 . intro w b cap cs e hb hcs b6 hrd;have h1:=hc b cap w (E2 hb (by omega) hrd) (by omega);rw [h4];refine h1.mono ?_;rintro e' w' ⟨rfl,n,rfl⟩;refine ⟨rfl,?_⟩;have:=Bi (os:= #[]) (n:=n) (ys:=ys) hb (by omega);simpa only [grow_empty] using this
 intro hx a w;refine (h0 a w).mono ?_;rintro e' w' ⟨rfl,rfl⟩;exact ⟨rfl,Grown.refl _⟩
theorem E4 {f:FuncId} {d l ae n:Nat} {zs ys:lI} {xt:lA} {k:AV->Mem->Prop} {q:Pack k} (j:Nat) (hE:Enters P f) (hlk:ah m l=some (.row ae ⟨1,false⟩ true (zs.map fun n=>.val (.int .i64 n)))) (hn:n=zs.length) (hlen:ys.length=zs.length) (hj:j<=zs.length)
 (hz:zs.length<=1048576)
 (hc:∀(pd cap:Nat) (w:World),Holds (Value.int .i64) w pd 0 zs.toArray->zs.length<=cap→
   Calls P f #[.slice (some ⟨pd,0,none⟩) zs.length cap] w fun e' w'=>e'= .returned (.slice (some ⟨pd,0,none⟩) j cap)/\∃q,w'=putRow (Value.int .i64) (Sort.ahead w q) pd 0 ys.toArray)
 (h0:∀(a:Option Addr) (w:World),Calls P f #[.slice a 0 0] w fun e' w'=>e'= .returned (.slice a 0 0)/\w'=w)
 (hk:k (.ref l (ae+1) 0 j) ((l,.row (ae+1) ⟨1,false⟩ true (ys.map fun n=>.val (.int .i64 n)))::m)):e6 P f d [.ref l ae 0 n] xt m k q:=
 .inl (rU j hE hlk hn hlen hj hz hc h0 hk)
theorem E5 {f:FuncId} {d l ae n:Nat} {zs ys:lI} {xt:lA} {k:AV->Mem->Prop} {q:Pack k} (j:Nat) (hE:Enters P f) (hlk:ah m l=some (.row ae ⟨1,false⟩ true (zs.map fun n=>.val (.int .i64 n)))) (hn:n=zs.length) (hlen:ys.length=zs.length) (hj:j<=zs.length)
 (hz:zs.length<=1048576)
 (hc:∀(pd cap:Nat) (w:World),Holds (Value.int .i64) w pd 0 zs.toArray->zs.length<=cap→
   Calls P f #[.slice (some ⟨pd,0,none⟩) zs.length cap] w fun e' w'=>e'= .returned (.slice (some ⟨pd,0,none⟩) j cap)/\∃q,w'=putRow (Value.int .i64) (Sort.ahead w q) pd 0 ys.toArray)
 (h0:∀(a:Option Addr) (w:World),Calls P f #[.slice a 0 0] w fun e' w'=>e'= .returned (.slice a 0 0)/\w'=w)
 (hk:k (.ref l (ae+1) 0 j) ((l,.row (ae+1) ⟨1,false⟩ true (ys.map fun n=>.val (.int .i64 n)))::m)):iQ P f d [.ref l ae 0 n] xt m k q:=
 .inr (.inr ⟨_,[_],hk,fun m' a _ k' hk'=>rU j hE ((a l ⟨_,List.mem_singleton.2 rfl,NL.ref _ _ _ _⟩).trans hlk) hn hlen hj hz hc h0 hk'⟩)
theorem nf {P:Program} {w:World} {b o:Nat} {cs:aV} {e:El} {vs:List Value} (hb:w.heap[b]? =some (eo cs e)) (h1:∀u,u∈vs->u.oneCell'=true) (o5:o+vs.length<=cs.size):
 w.setCells b o vs=w.setRow b (cs.toList.take o++vs++cs.toList.drop (o+vs.length)).toArray:=by
 have e1:=iJ P (e:=e) (o:=o) vs 0 cs w hb (by simpa using o5) h1
 have e2:=run_storeCells_cells (P:=P) b o vs 0 w (fun j hj=>by
  have hlt:o+0+j<cs.size:=by omega
  simp [World.cell?,hb];omega) (fun j hj=>by
   have hlt:o+j<cs.size:=by omega
   have:=l8 hb hlt
   simpa using this) h1
 simp only [Nat.add_zero] at e1 e2;rw [e2] at e1;injection e1
theorem Sy {w:World} {S:Nat->Prop} {x:AV} {l:List Value} {o:Nat} {sh:Sh} {fs:lN} (h:Own w S x (elemV l o sh) fs) (hf:fits sh x) (hl:o+sh.sz<=l.length) (c:Nat) (hc:c<sh.sz):(l.getD (o+c) Go.undef).oneCell'=true:=by
 cases sh with
 |mk sz ag=>
 simp only at hc hl;have one:leaf x->ag=false/\sz=1->(l.getD (o+c) Go.undef).oneCell'=true:=by rintro hlf ⟨rfl,rfl⟩;have:=h.aU hlf;rw [bg] at this;rw [show o+c=o by omega];exact this
 cases x with
 |agg zs=>
  obtain ⟨rfl,hzl⟩:=hf;obtain ⟨cs,fss,hcs,_,h1,h2,_,h3⟩:=Ci h;rw [cX] at hcs;cases hcs;have h4:=(h3 c (by rw [hzl];exact hc)).aU (h2 _ (by rw [hzl];exact hc));rw [show (((l.drop o).take sz).toArray.toList)=(l.drop o).take sz from rfl,bR _ _ _ _ hc] at h4;exact h4
 |undef=>exact hf.elim
 |aX xs=>exact hf.elim
 |_=>exact one trivial hf
def O4 (i p:Nat):Nat:=if p<i then p else p+1
theorem sQ {α:Type} (xs:List α) (i p:Nat):(xs.eraseIdx i)[p]? =xs[O4 i p]? :=by rw [List.getElem?_eraseIdx];unfold O4;split<;>rfl
theorem E6 {f:FuncId} {l ae i n:Nat} {sh:Sh} {xs:lA} {zs:List Value} {k:AV->Mem->Prop} (hE:Enters P f) (hlk:ah m l=some (.row ae sh true xs)) (hn:n=xs.length) (hi:i<xs.length) (hsz:0<sh.sz)
 (hzl:zs.length=sh.sz) (hz1:∀u,u∈zs->u.oneCell'=true)
 (hc:∀(w:World) (b cap:Nat) (cs:aV) (e:El),w.heap[b]? =some (eo cs e)->cs.size=cap*sh.sz->cap<=9223372036854775807->xs.length<=cap->(∀v,v∈(cs.toList.drop ((i+1)*sh.sz)).take ((xs.length-(i+1))*sh.sz)->v.oneCell'=true)→
   Calls P f #[.slice (some ⟨b,0,none⟩) xs.length cap,.int .i64 i,.int .i64 ((i+1:Nat):Int)] w fun e' w'=>e'= .returned (.slice (some ⟨b,0,none⟩) (xs.length-1) cap)∧
    ∃q,w'=((w.drewN q).setCells b (i*sh.sz) ((cs.toList.drop ((i+1)*sh.sz)).take ((xs.length-(i+1))*sh.sz))).setCells b ((xs.length-1)*sh.sz) zs)
 (hk:k (.ref l (ae+1) 0 (xs.length-1)) ((l,.row (ae+1) sh true (xs.eraseIdx i))::m)):gY P f [.ref l ae 0 n,.val (.int .i64 i),.val (.int .i64 ((i:Int)+1))] m k:=by
 subst hn;refine fun B N φ fp S ts a w vs hR Yx hx hxl=>⟨hE,?_⟩;obtain ⟨u,u1,u2,rfl⟩:∃u u1 u2,vs= #[u,u1,u2]:=by
  have:vs.size=3:=Yx
  exact ⟨vs[0],vs[1],vs[2],by
   apply Array.ext
   . simpa using this
   intro j h1 h2;have:j=0\/j=1\/j=2:=by omega
   rcases this with rfl|rfl|rfl<;>rfl⟩
 have hx0:RV w S φ (.ref l ae 0 xs.length) u:=hx 0 (by simp);have hx1:RV w S φ (.val (.int .i64 i)) u1:=hx 1 (by simp);have hx2:RV w S φ (.val (.int .i64 ((i:Int)+1))) u2:=hx 2 (by simp);obtain ⟨rfl,_⟩:=aS hx1;obtain ⟨rfl,_⟩:=aS hx2;obtain ⟨r1,r2⟩:=dm hx0;have fG:∀v',known m l v'->v'<ae+1:=by rintro v' ⟨k',h1,h2⟩;rw [hlk] at h1;cases h1;exact Nat.lt_succ_of_le h2
 rcases hR.aF l _ hlk with ⟨hφ,hxs,_⟩|⟨b,cap,hφ,hbm,_,bc⟩
 . rw [hxs] at hi;exact absurd hi (q19 _)
 simp only [if_true] at bc;obtain ⟨ad,cap',rfl,hn,hcp⟩:=r1 b _ hφ;rcases hcp with rfl|⟨rfl,cs0,e0,hh0,hs0⟩
 . omega
 rcases ka bc with ⟨hx1,hf0,_⟩|⟨b',cap2,cs,e,fss,q1,hgf,aD,hcs,b6,hmx,hff,hfl,hvv⟩
 . rw [hf0] at hbm;cases hbm
 simp only [Value.slice.injEq,Option.some.injEq,Addr.mk.injEq] at q1;obtain ⟨⟨rfl,_⟩,_,rfl⟩:=q1;rw [aD] at hh0;simp only [Option.some.injEq,Obj.cells.injEq] at hh0;obtain ⟨rfl, -, -⟩:=hh0;rw [q20] at hs0;have hcc:cap'=cap:=Nat.eq_of_mul_eq_mul_right hsz (by rw [←hs0,hcs]);subst hcc;have o5:xs.length*sh.sz<=cs.size:=by rw [hcs];exact Nat.mul_le_mul_right _ b6
 have cell1:∀p,p<xs.length->∀c,c<sh.sz->(cs.toList.getD (p*sh.sz+c) Go.undef).oneCell'=true:=by intro p hp c hcl;have h1:=ba (s:=sh.sz) hp;exact Sy (hvv p hp) (hff p hp) (by rw [Array.length_toList];omega) c hcl
 have hmul:∀p,(p+1)*sh.sz=p*sh.sz+sh.sz:=fun p=>Nat.succ_mul p _;obtain ⟨g1,hg1⟩:∃g1,g1=(xs.length-(i+1))*sh.sz:=⟨_,rfl⟩;have hg2:(i+1)*sh.sz+g1=xs.length*sh.sz:=by rw [hg1,←Nat.add_mul];congr 1;omega
 have hg3:(xs.length-1)*sh.sz+sh.sz=xs.length*sh.sz:=by rw [←hmul];congr 1;omega
 have hg4:i*sh.sz+g1=(xs.length-1)*sh.sz:=by rw [hmul] at hg2;omega
 obtain ⟨news,qi⟩:∃news,news=(cs.toList.drop ((i+1)*sh.sz)).take ((xs.length-(i+1))*sh.sz):=⟨_,rfl⟩;have hnl:news.length=g1:=by rw [qi,hg1];simp;omega
 have T5:∀c,c<g1->news.getD c Go.undef=cs.toList.getD ((i+1)*sh.sz+c) Go.undef:=by intro c hcl;rw [qi,bR _ _ _ _ (by rw [←hg1];exact hcl)]
 have hn1:∀u,u∈news->u.oneCell'=true:=by
  intro u hu;obtain ⟨t,ht,rfl⟩:=q9 hu;have h2:=T5 t (by omega);rw [q5,q6 ht] at h2;simp only [Option.getD_some] at h2;rw [h2];have h3:((i+1)*sh.sz+t) / sh.sz<xs.length:=by rw [Nat.div_lt_iff_lt_mul hsz];omega
  have h4:=Nat.div_add_mod ((i+1)*sh.sz+t) sh.sz;have h5:=cell1 _ h3 _ (Nat.mod_lt ((i+1)*sh.sz+t) hsz);rw [Nat.mul_comm] at h4;rw [h4] at h5;exact h5
 have hcr:=hc w b cap' cs e aD hcs (by unfold maxLen at hmx;omega) b6 (by rw [←qi];exact hn1);rw [←qi] at hcr;rw [show (0:Nat)*sh.sz=0 from Nat.zero_mul _];refine hcr.mono ?_;rintro e' w' ⟨rfl,q',hw'⟩;have QC:(w.drewN q').heap[b]? =some (eo cs e):=aD;have hf1:i*sh.sz+news.length<=cs.size:=by rw [hnl];omega
 rw [nf (P:=P) QC hn1 hf1] at hw';have hs1:=bU (cs:=cs) hf1;have hh1:=bT QC hs1;have T6:∀c,c<(xs.length-1)*sh.sz->(cs.toList.take (i*sh.sz)++news++cs.toList.drop (i*sh.sz+news.length)).toArray.toList.getD c Go.undef=if c<i*sh.sz then cs.toList.getD c Go.undef else cs.toList.getD (c+sh.sz) Go.undef:=by
  intro c hcl;show (cs.toList.take (i*sh.sz)++news++cs.toList.drop (i*sh.sz+news.length)).getD c Go.undef=_;rw [eu _ _ _ _ (by rw [Array.length_toList];exact hf1)];by_cases h1:c<i*sh.sz
  . rw [if_neg (by omega),if_pos h1]
  rw [if_pos (by omega),if_neg h1,T5 _ (by omega),hmul];congr 1;omega
 generalize (cs.toList.take (i*sh.sz)++news++cs.toList.drop (i*sh.sz+news.length)).toArray=cs1 at hw' hs1 hh1 T6;have hf2:(xs.length-1)*sh.sz+zs.length<=cs1.size:=by rw [hzl,hs1];omega
 rw [nf (P:=P) hh1 hz1 hf2] at hw';have hs2:=bU (cs:=cs1) hf2;have hh2:=bT hh1 hs2;have T7:∀c,c<(xs.length-1)*sh.sz->(cs1.toList.take ((xs.length-1)*sh.sz)++zs++cs1.toList.drop ((xs.length-1)*sh.sz+zs.length)).toArray.toList.getD c Go.undef=if c<i*sh.sz then cs.toList.getD c Go.undef else cs.toList.getD (c+sh.sz) Go.undef:=by intro c hcl;rw [←T6 c hcl];show (cs1.toList.take ((xs.length-1)*sh.sz)++zs++cs1.toList.drop ((xs.length-1)*sh.sz+zs.length)).getD c Go.undef=_;rw [eu _ _ _ _ (by rw [Array.length_toList];exact hf2),if_neg (by omega)]
 have vB:∀c,c≠b->w'.heap[c]? =w.heap[c]? :=by intro c hcb;rw [hw',aC _ hcb,aC _ hcb];rfl
 have Zo:w'.heap.size=w.heap.size:=by rw [hw'];simp
 have hso:a8 w w':=by rw [hw'];exact ⟨rfl,rfl,rfl⟩
 rw [←hw'] at hh2;clear hw';generalize (cs1.toList.take ((xs.length-1)*sh.sz)++zs++cs1.toList.drop ((xs.length-1)*sh.sz+zs.length)).toArray=cs2 at hs2 hh2 T7;have S7:cs2.size=cs.size:=hs2.trans hs1;have Df:jD w w':=by
  intro c cs3 e3 hc3;by_cases ec:c=b
  . subst ec;obtain rfl:=db (aD.symm.trans hc3);exact ⟨cs2,e,hh2,S7⟩
  exact ⟨cs3,e3,by rw [vB c ec];exact hc3,rfl⟩
 have nI:=hR.gZ l;rw [hgf] at nI;have jU:=List.nodup_cons.1 nI;have hel:(xs.eraseIdx i).length=xs.length-1:=by rw [List.length_eraseIdx,if_pos hi]
 have dA:((fss.eraseIdx i).flatten).Sublist fss.flatten:=by
  rw [List.eraseIdx_eq_take_drop_succ,List.flatten_append];have e1:fss.flatten=(fss.take i).flatten++((fss.drop i).take 1).flatten++(fss.drop (i+1)).flatten:=by rw [List.append_assoc,←List.flatten_append,←List.flatten_append];congr 1;rw [show fss.drop (i+1)=(fss.drop i).drop 1 by rw [List.drop_drop],List.take_append_drop,List.take_append_drop]
  rw [e1];exact List.Sublist.append (List.sublist_append_left ..) (List.Sublist.refl _)
 have cA:∀c,c∈(fss.eraseIdx i).flatten->c∈fp l:=fun c hc=>by rw [hgf];exact q11 _ (dA.subset hc)
 refine ⟨_,rfl,hR.kb (b:=b) (cap:=cap') (n:=xs.length-1) (nv:=ae+1) (sh:=sh) (deep:=true) (xs:=xs.eraseIdx i) (fs:=b::(fss.eraseIdx i).flatten) (by omega) hso Df (fun c hcb _=>vB c hcb)
  (fun l b sh ae cs e _ hb=>Df b cs e hb) (.inl hbm) fG (fun c hc=> ?_) (q12 ..) (fun h=>(by cases h)) (List.nodup_cons.2 ⟨fun hc=>jU.1 (dA.subset hc),jU.2.sublist dA⟩) ?_ ?_ ⟨rfl,hk⟩⟩
 . rcases q10.1 hc with rfl|hc
   . exact .inl rfl
   exact .inr (cA c hc)
 . show Own w' (fun _=>False) _ _ _;refine .arr sh (xs.eraseIdx i) b cap' cs2 e (fss.eraseIdx i) hh2 (by rw [S7,hcs]) (by omega) hmx (fun p hp=> ?_) (by rw [hel,List.length_eraseIdx,if_pos (by omega)];omega) fun p hp=> ?_
   . have hp1:O4 i p<xs.length:=by unfold O4;split<;>omega
     have:(xs.eraseIdx i)[p]=xs[O4 i p]:=by have h1:=sQ xs i p;rw [q6 hp,q6 hp1] at h1;exact Option.some.inj h1
     rw [this];exact hff _ hp1
   have hp1:O4 i p<xs.length:=by unfold O4;split<;>omega
   have hp2:p<xs.length-1:=by omega
   have e1:(xs.eraseIdx i)[p]=xs[O4 i p]:=by have h1:=sQ xs i p;rw [q6 hp,q6 hp1] at h1;exact Option.some.inj h1
   have e2:(fss.eraseIdx i).getD p []=fss.getD (O4 i p) []:=by rw [q5,q5,sQ]
   have m1:=ba (s:=sh.sz) hp2;have m2:=ba (s:=sh.sz) hp1;have e3:elemV cs2.toList (p*sh.sz) sh=elemV cs.toList (O4 i p*sh.sz) sh:=by
    refine iq (by rw [Array.length_toList,S7];omega) (by rw [Array.length_toList];omega) (gB (hff _ hp1)) fun c hcl=> ?_;rw [T7 _ (by omega)];unfold O4;by_cases h1:p<i
    . have:=ba (s:=sh.sz) h1;rw [if_pos (by omega),if_pos h1]
    have:i*sh.sz<=p*sh.sz:=Nat.mul_le_mul_right _ (by omega);rw [if_neg (by omega),if_neg h1,hmul];congr 1;omega
   rw [e1,e2,e3];exact (hvv _ hp1).mono (fun _ h=>h.elim) (fun _ h=>h) fun c hc2=>vB c fun e=>jU.1 (by rw [←e];exact aI (by omega) hc2)
 exact ⟨some ⟨b,0,none⟩,cap',rfl,by omega,.inr ⟨rfl,cs2,e,hh2,by rw [S7,hcs]⟩⟩
end
def qw (P:Program) (f:FuncId) (io:List bj) (args:lA) (post:AV->List bj->Prop):Prop:=
 Enters P f/\∀(w:World) (φ:Nat->LS) (fp:Nat->lN) (S:Nat->Prop) (vs:aV),vs.size=args.length→
  RS (Hb w φ fp S io) vs.size φ fp S (bH 0 args) (l7 0 io) {tmps:=vs,defers:=[]} w→
  Calls P f vs w fun e w'=>∃r v io' φ' fp' S' m',e= .returned v/\post r io'/\RS (Hb w φ fp S io) 0 φ' fp' S' [] m' {tmps:= #[],defers:=[]} w'/\KH io io' m'/\Rd w' S' r v
def O5 (P:Program) (rs:List ResultVar) (vers:lN) (post:AV->List bj->Prop):dc
 | .normal=>fun ts m=>aN P (fun xs=>iL (fun ys m'=>aq ys=[]/\qo m' (fun io'=>post (bG ys) io') 0 vers []) [] m xs) rs ts m []
 | .ret=>fun ts m=>aN P (fun xs=>iL (fun ys m'=>aq ys=[]/\qo m' (fun io'=>post (bG ys) io') 0 vers []) [] m xs) rs ts m []
 |_=>fun _ _=>False
theorem LD (P:Program) (rs:List ResultVar) (vers:lN) (post:AV->List bj->Prop) (ts:Env) (m:Mem):
 O5 P rs vers post .ret ts m=aN P (fun xs=>iL (fun ys m'=>aq ys=[]/\qo m' (fun io'=>post (bG ys) io') 0 vers []) [] m xs) rs ts m []:=rfl
theorem qw.nb {P:Program} {f:FuncId} {fn:Func} {c:Code} {io:List bj} {args:List AV} {post:AV→List bj→Prop} (hf:P.funcs[f]? =some fn) (hn:(fn.name== "runtime.NumGoroutine")=false) (hb:fn.body=some c)
 (hok:codeOk fn.ntmps c=true) (ha:args.length<=fn.ntmps) (hv:vc P fn.ntmps c (bH 0 args) (l7 0 io) (O5 P fn.results.toList (io.map bj.ae) post)):qw P f io args post:=by
 refine ⟨⟨fn,c,hf,hn,hb⟩,fun w φ fp S vs hsz hR0=> ?_⟩;refine calls_of_wp hf hb ?_;have hRS:RS (Hb w φ fp S io) fn.ntmps φ fp S (bH 0 args) (l7 0 io) {tmps:=vs++q2 (fn.ntmps-vs.size) undef,defers:=[]} w:=by
  refine {hR0 with tm:=fun t=> ?_,defers:=rfl,k6:=by simp;omega};by_cases h:t<args.length
  . have h1:=hR0.tm t;have:vs.getD t Go.undef=(vs++q2 (fn.ntmps-vs.size) undef).getD t Go.undef:=by
     have h2:t<vs.size:=by omega
     simp only [q0];rw [Array.getElem?_append_left h2]
    rw [←this];exact h1
  rw [bI];have:(if 0<=t then (args[t-0]?).getD AV.undef else .undef)= .undef:=by simp [q7 (show args.length<=t by omega)]
  rw [this];exact .rd _ _ (.undef _)
 have fR:∀a' w',hZ (Hb w φ fp S io) fn.ntmps (fun ts m=>aN P (fun xs=>iL (fun ys m'=>aq ys=[]/\qo m' (fun io'=>post (bG ys) io') 0 (io.map bj.ae) []) [] m xs) fn.results.toList ts m []) a' w'→
  a'.defers=[]/\∃v,(results fn a'.tmps).run P w'= .ok v w'/\∃r v' io' φ' fp' S' m',Ending.returned v= .returned v'/\post r io'/\RS (Hb w φ fp S io) 0 φ' fp' S' [] m' {tmps:= #[],defers:=[]} w'/\KH io io' m'∧
   Rd w' S' r v':=by
  rintro a' w' ⟨Dp,fp0,S0,ts',m0,h0,hk⟩;refine ⟨h0.defers,?_⟩;obtain ⟨ys0,us,h1,h2,h3,h4⟩:=cL h0 fn.results.toList [] [] ⟨rfl,fun i hi=>absurd hi (q19 _)⟩ (fun i hi=>absurd hi (q19 _)) hk;obtain ⟨φ',fp',S',m',ys,hgv,h3,gV,h1⟩:=pc ys0 us [] [] h0 (by simpa using h3) ⟨rfl,fun i hi=>absurd hi (q19 _)⟩ h1;have h':=hgv.rs;obtain ⟨h3a,h3b⟩:=h3;simp only [q14] at h3a h3b;obtain ⟨io',q1,q2,q3⟩:=Co _ _ _ h1;rw [List.reverse_nil,q14] at q1;refine ⟨if h:us.toArray.size=1 then us.toArray[0] else .tuple us.toArray,?_,bG ys,_,io',φ',fp',S',m',rfl,q1,?_,⟨by simpa using q2,fun k hk hk'=> ?_⟩,cU (mu h3a h3b) (ie gV)⟩
  . have hm:results fn a'.tmps=(do let vs ←fn.results.mapM (cY a'.tmps);pure (if h:vs.size=1 then vs[0] else .tuple vs)):=by
     unfold results;congr 1
    rw [hm,Sem.run_bind,Array.mapM_eq_mapM_toList];have:(List.toArray <$> fn.results.toList.mapM (cY a'.tmps):Sem aV).run P w'= .ok us.toArray w':=by rw [map_eq_pure_bind,Sem.run_bind,h2];rfl
    rw [this];rfl
  . exact {h' with tm:=fun t=>by rw [look_nil];exact .rd _ _ (.undef _),tl:=fun t l ae hl=>(by rw [look_nil] at hl;cases hl),defers:=rfl,k6:=rfl}
  have:=q3 k hk (by simpa using hk');rw [q20] at this;refine ⟨this.1,?_,this.2.2⟩;rw [this.2.1,List.getElem_map]
 refine wp_mono (cD c _ _ _ hok hv _ _ _ _ _ _ hRS) ?_;intro e a' w' hq;cases e with
 |normal=>exact fR a' w' hq
 |ret=>exact fR a' w' hq
 |_=>obtain ⟨_,_,_,_,_,_,hh⟩:=hq;exact hh.elim
theorem qw.dK {P:Program} {f:FuncId} {fn:Func} {c:Code} {io:List bj} {args:lA} {post:AV->List bj->Prop} (N:Nat) (rs:List ResultVar) (hf:P.funcs[f]? =some fn) (hN:fn.ntmps=N:=by exact rfl) (hr:fn.results.toList=rs:=by exact rfl)
 (hn:(fn.name== "runtime.NumGoroutine")=false:=by exact rfl) (hb:fn.body=some c:=by exact rfl) (hok:codeOk N c=true:=by exact rfl) (ha:args.length≤N:=by exact oT rfl) (hv:vc P N c (bH 0 args) (l7 0 io) (O5 P rs (io.map bj.ae) post)):qw P f io args post:=by
 subst hN;subst hr;exact qw.nb hf hn hb hok ha hv
section
variable {P:Program} {B:eE} {N:Nat} {φ:Nat->LS} {fp:Nat->lN} {S:Nat->Prop} {ts:Env} {m:Mem} {a:Act} {w:World}
theorem E7 {f:FuncId} {ρ:lN} {io:List bj} {args xs:lA} (hnd:ρ.Nodup) (hio:io.length=ρ.length)
 (hlk:∀j (h:j<ρ.length) (h':j<io.length),ah m ρ[j]=some io[j]/\fU io[j]) {vs:aV} (h:RS B N φ fp S ts m a w) (hvl:vs.size=args.length)
 (hx:∀i (h:i<args.length),RV w S (nV φ ρ) args[i] (vs.toList.getD i Go.undef)/\∀l ae,(l,ae)∈an args[i]->known (l7 0 io) l ae) {post:AV->List bj->Prop} (hf:qw P f io args post):
 Calls P f vs w fun e w'=>∃v r io' fp2 T,e= .returned v/\post r io'/\RS B N φ fp2 T ts (fW ρ io' m) a w'/\Rd w' T r v:=by
 have inj:∀i j (hi:i<ρ.length) (hj:j<ρ.length),ρ[i]=ρ[j]->i=j:=fun i j hi hj e=>(List.getElem_inj hnd).1 e;have look0:∀l,ah (l7 0 io) l=if bE<=l then io[l-bE]? else none:=fun l=>by rw [mo];rfl
 have at_:∀l b,ah (l7 0 io) l=some b->∃j,∃hj:j<ρ.length,∃hj':j<io.length,l=bE+j/\b=io[j]:=by
  intro l b hb;rw [look0] at hb;split at hb
  . rename_i hl;obtain ⟨hj,e⟩:=q8.1 hb;exact ⟨l-bE,by omega,hj,by omega,e.symm⟩
  cases hb
 have hR0:RS (Hb w (nV φ ρ) (pJ fp ρ) S io) vs.size (nV φ ρ) (pJ fp ρ) S (bH 0 args) (l7 0 io) {tmps:=vs,defers:=[]} w:=by
  refine {tm:=fun t=> ?_,tl:=fun t l ae hl=> ?_,b7:=fun l hl=> ?_,aF:=fun l b hb=> ?_,bl:=fun l v xs hb l' ae hl=> ?_,gZ:=fun l=> ?_,fI:=fun l l' b h1 h2=> ?_,
          bQ:=fun l b hb=> ?_,cw:=fun l b hb=> ?_,sB:=fun b hb=>⟨(h.sB b hb).1,.inr hb⟩,base:=fun b _ _=>rfl,out:=a8.refl _,kj:=jD.refl _,kn:=fun _ _ _ hk=>hk,fix:=fun _ _ _ _=>LS.le_refl _ _,
          size:=q16 _,defers:=rfl,k6:=rfl,js:=h.js}
  . rw [bI];by_cases ht:t<args.length
    . have e:(if 0<=t then (args[t-0]?).getD AV.undef else .undef)=args[t]:=by simp [ht]
      rw [e];have:=(hx t ht).1;have e2:vs.toList.getD t Go.undef=vs.getD t Go.undef:=by simp [q5,q0]
      rw [←e2];exact this
    have e:(if 0<=t then (args[t-0]?).getD AV.undef else .undef)= .undef:=by simp [q7 (show args.length<=t by omega)]
    rw [e];exact .rd _ _ (.undef _)
  . rw [bI] at hl;by_cases ht:t<args.length
    . have e:(if 0<=t then (args[t-0]?).getD AV.undef else .undef)=args[t]:=by simp [ht]
      rw [e] at hl;exact (hx t ht).2 l ae hl
    have e:(if 0<=t then (args[t-0]?).getD AV.undef else .undef)= .undef:=by simp [q7 (show args.length<=t by omega)]
    rw [e] at hl;cases hl
  . rw [look0] at hl;unfold nV pJ;split at hl
    . rename_i hl';have:ρ[l-bE]? =none:=q7 (by have:=List.getElem?_eq_none_iff.1 hl;omega);rw [if_pos hl',if_pos hl',this];exact ⟨rfl,rfl⟩
    rename_i hl';rw [if_neg hl',if_neg hl'];exact ⟨rfl,rfl⟩
  . obtain ⟨j,hj,hj',rfl,rfl⟩:=at_ l b hb;have hb0:=h.aF ρ[j] _ (hlk j hj hj').1;have hfr:=(hlk j hj hj').2;rw [vF fp hj];generalize io[j]=b at hb0 hfr;cases b with
    |gone v=>exact ⟨by rw [fX φ hj];exact hb0.1,hb0.2⟩
    |row v sh dp xs=>
     rcases hb0 with ⟨q1,q2,q3⟩|⟨b,cap,q1,q2⟩
     . exact .inl ⟨by rw [fX φ hj];exact q1,q2,q3⟩
     exact .inr ⟨b,cap,by rw [fX φ hj];exact q1,q2⟩
    |j8 v xs i u=>exact hfr.elim
    |sub v sh xs u=>exact hfr.elim
    |box v xs=>
     obtain ⟨b,cs,e,sh,q1,q2,q3,q4,q5,q6⟩:=hb0;exact ⟨b,cs,e,sh,by rw [fX φ hj];exact q1,q2,q3,q4,q5,fun i hi=>.rd _ _ (cU (q6 i hi) (bM hfr i hi))⟩
  . obtain ⟨j,hj,hj',rfl,e⟩:=at_ l _ hb;have hfr:=(hlk j hj hj').2;rw [←e] at hfr;have hfr:aq xs=[]:=hfr;rw [hfr] at hl;cases hl
  . unfold pJ;split
    . split
      . exact h.gZ _
      exact q15
    exact q15
  . obtain ⟨i,hi,rfl,b1⟩:=gS h1;obtain ⟨j,hj,rfl,b2⟩:=gS h2;have:=inj i j hi hj (h.fI _ _ b b1 b2);subst this;rfl
  . obtain ⟨i,hi,rfl,b1⟩:=gS hb;exact h.bQ _ b b1
  obtain ⟨i,hi,rfl,b1⟩:=gS hb;exact ⟨(h.cw _ b b1).1,.inr ⟨_,hb,by omega,.inl rfl⟩⟩
 refine (hf.2 w (nV φ ρ) (pJ fp ρ) S vs hvl hR0).mono ?_;rintro e w' ⟨r,v,io',φ',fp',S',m',rfl,gK,hR,⟨hl',hok⟩,hrd⟩;have hl2:io'.length=ρ.length:=hl'.trans hio;have iY:∀b:Nat,b<w.heap.size->(∀j (hj:j<ρ.length),b∉fp ρ[j])->w'.heap[b]? =w.heap[b]? :=fun b hb hn=>hR.base b hb fun l hb'=>by obtain ⟨j,hj,rfl,hb2⟩:=gS hb';exact hn j hj hb2
 have kY:∀b,S b->w'.heap[b]? =w.heap[b]? :=fun b hb=>iY b (h.sB b hb).1 fun j hj hb'=>h.bQ _ b hb' hb;have hz:fS φ w w':=fun l b sh ae cs e _ hb=>hR.kj b cs e hb;have hm2:=fun l=>lC (m:=m) ρ io' hl2 hnd l;have hkn:∀l ae,known m l ae->known (fW ρ io' m) l ae:=by
  rintro l ae ⟨k',h1,h2⟩;by_cases hl:l∈ρ
  . obtain ⟨j,hj,rfl⟩:=q9 hl;have e:=(hm2 ρ[j]).1 j hj rfl;rw [q6 (by omega)] at e;rw [(hlk j hj (by omega)).1] at h1;have h1:=Option.some.inj h1;exact ⟨_,e,by rw [(hok j (by omega) (by omega)).2.1,h1];exact h2⟩
  exact ⟨k',((hm2 l).2 hl).trans h1,h2⟩
 let T:Nat->Prop:=fun b=>S b\/(S' b/\w.heap.size<=b);have hST:∀b,S' b->T b:=fun b hb=>by
  rcases (hR.sB b hb).2 with hh|hh
  . exact .inr ⟨hb,hh⟩
  exact .inl hh
 let fp2:Nat->lN:=fun l=>match ρ.idxOf? l with|some j=>fp' (bE+j)|none=>fp l
 have fp2in:∀j (hj:j<ρ.length),fp2 ρ[j]=fp' (bE+j):=by
  intro j hj;have:ρ.idxOf? ρ[j]=some j:=by rw [List.idxOf?,List.findIdx?_eq_some_iff_getElem];refine ⟨hj,by simp,fun i hi=> ?_⟩;simp only [beq_iff_eq];intro e2;have:=inj i j (by omega) hj e2;omega
  show (match ρ.idxOf? ρ[j] with|some j=>fp' (bE+j)|none=>fp ρ[j])=_;rw [this]
 have fp2out:∀l,l∉ρ->fp2 l=fp l:=by
  intro l hl;have:ρ.idxOf? l=none:=by simpa [List.idxOf?_eq_none_iff] using hl
  show (match ρ.idxOf? l with|some j=>fp' (bE+j)|none=>fp l)=_;rw [this]
 have fpnew:∀j (hj:j<ρ.length) b,b∈fp' (bE+j)->b<w'.heap.size/\(w.heap.size<=b\/b∈fp ρ[j]):=by
  intro j hj b hb;have:=hR.cw _ b hb;refine ⟨this.1,this.2.imp id fun hh=> ?_⟩;obtain ⟨l',hb2,_,hl3⟩:=hh;have hl3:l'=bE+j:=hl3.resolve_right fun e=>by have e:ah (l7 0 io) (bE+j)=none:=e;rw [look0,if_pos (by omega),List.getElem?_eq_none_iff] at e;omega
  subst hl3;have hh:b∈pJ fp ρ (bE+j):=hb2
  rwa [vF fp hj] at hh
 have hRS:RS B N φ fp2 T ts (fW ρ io' m) a w':=by
  refine {tm:=fun t=>(h.tm t).mono kY (fun b hb=>.inl hb) hz fun l ae _=>LS.le_refl _ _,tl:=fun t l ae hl=>hkn l ae (h.tl t l ae hl),b7:=fun l hl=> ?_,aF:=fun l b hb=> ?_,
          bl:=fun l v xs hb l' ae hl=> ?_,gZ:=fun l=> ?_,fI:=fun l l' b h1 h2=> ?_,bQ:=fun l b hb=> ?_,cw:=fun l b hb=> ?_,sB:=fun b hb=> ?_,base:=fun b hb hio=> ?_,
          out:=h.out.trans hR.out,kj:=h.kj.trans hR.kj,kn:=fun l ae hl hk=>hkn l ae (h.kn l ae hl hk),fix:=h.fix,size:=q17 h.size hR.size,defers:=h.defers,k6:=h.k6,js:=h.js.mono kY fun b hb=>.inl hb}
  . by_cases hm:l∈ρ
    . obtain ⟨j,hj,rfl⟩:=q9 hm;rw [(hm2 ρ[j]).1 j hj rfl,q6 (by omega)] at hl;cases hl
    rw [(hm2 l).2 hm] at hl;rw [fp2out l hm];exact h.b7 l hl
  . by_cases hm:l∈ρ
    . obtain ⟨j,hj,rfl⟩:=q9 hm;rw [(hm2 ρ[j]).1 j hj rfl,q6 (by omega)] at hb;have hb:=Option.some.inj hb;subst hb;obtain ⟨g1,g2,g3⟩:=hok j (by omega) (by omega);have hB:=hR.aF _ _ g1;have VV:known (l7 0 io) (bE+j) (io[j]'(by omega)).ae:=⟨io[j]'(by omega),by rw [look0,if_pos (by omega)];simp<;>omega,q16 _⟩;have qP:=hR.fix (bE+j) _ (by omega) VV;have qP:LS.le (φ' (bE+j)) (φ ρ[j]) (io[j]'(by omega)).ae:=by rw [←fX φ hj];exact qP
      rw [fp2in j hj];rw [←g2] at qP;generalize io'[j]=b at hB qP g3;cases b with
      |gone v=>exact g3.elim
      |row v sh dp xs=>
       rcases hB with ⟨q1,q2,q3⟩|⟨b,cap,q1,q2,q3,q4⟩
       . exact .inl ⟨qP.2 q1,q2,q3⟩
       refine .inr ⟨b,cap,qP.1 _ _ q1,q2,q3,?_⟩;cases dp with
       |true=>exact q4
       |false=>exact q4.mono (fun _ _=>rfl) hST (fun _ _=>rfl)
      |j8 v xs i u=>exact g3.elim
      |sub v sh xs u=>exact g3.elim
      |box v xs=>
       obtain ⟨b,cs,e,sh,q1,q2,q3,q4,q5,q6⟩:=hB;exact ⟨b,cs,e,sh,qP.1 _ _ q1,q2,q3,q4,q5,fun i hi=>.rd _ _ ((cU (q6 i hi) (bM g3 i hi)).mono (fun _ _=>rfl) hST)⟩
    rw [(hm2 l).2 hm] at hb;rw [fp2out l hm];refine (h.aF l b hb).mono kY (fun b hb=>.inl hb) hz (fun c hc=>iY c (h.cw l c hc).1 fun j hj hc'=>hm ?_) rfl fun _ _ _ _ _ _=>LS.le_refl _ _;rw [h.fI _ _ c hc hc'];exact List.getElem_mem hj
  . by_cases hm:l∈ρ
    . obtain ⟨j,hj,rfl⟩:=q9 hm;rw [(hm2 ρ[j]).1 j hj rfl,q6 (by omega)] at hb;have hb:=Option.some.inj hb;have g3:=(hok j (by omega) (by omega)).2.2;rw [hb] at g3;have g3:aq xs=[]:=g3;rw [g3] at hl;cases hl
    rw [(hm2 l).2 hm] at hb;exact hkn l' ae (h.bl l v xs hb l' ae hl)
  . by_cases hm:l∈ρ
    . obtain ⟨j,hj,rfl⟩:=q9 hm;rw [fp2in j hj];exact hR.gZ _
    rw [fp2out l hm];exact h.gZ l
  . have mixed:∀j (hj:j<ρ.length) l,l∉ρ->b∈fp' (bE+j)->b∈fp l->False:=by
     intro j hj l hm b1 b2;rcases (fpnew j hj b b1).2 with hh|hh
     . have:=(h.cw l b b2).1;omega
     exact hm (by rw [h.fI _ _ b b2 hh];exact List.getElem_mem hj)
    by_cases m1:l∈ρ
    . obtain ⟨j,hj,rfl⟩:=q9 m1;rw [fp2in j hj] at h1;by_cases m2:l'∈ρ
      . obtain ⟨j',hj',rfl⟩:=q9 m2;rw [fp2in j' hj'] at h2;have:=hR.fI _ _ b h1 h2;have:j=j':=by omega
        subst this;rfl
      rw [fp2out l' m2] at h2;exact (mixed j hj l' m2 h1 h2).elim
    rw [fp2out l m1] at h1;by_cases m2:l'∈ρ
    . obtain ⟨j',hj',rfl⟩:=q9 m2;rw [fp2in j' hj'] at h2;exact (mixed j' hj' l m1 h2 h1).elim
    rw [fp2out l' m2] at h2;exact h.fI l l' b h1 h2
  . by_cases hm:l∈ρ
    . obtain ⟨j,hj,rfl⟩:=q9 hm;rw [fp2in j hj] at hb;rintro (hs|hs)
      . rcases (fpnew j hj b hb).2 with hh|hh
        . have:=(h.sB b hs).1;omega
        exact h.bQ _ b hh hs
      exact hR.bQ _ b hb hs.1
    rw [fp2out l hm] at hb;rintro (hs|hs)
    . exact h.bQ l b hb hs
    have:=(h.cw l b hb).1;omega
  . by_cases hm:l∈ρ
    . obtain ⟨j,hj,rfl⟩:=q9 hm;rw [fp2in j hj] at hb;have:=fpnew j hj b hb;refine ⟨this.1,?_⟩;rcases this.2 with hh|hh
      . exact .inl (q17 h.size hh)
      exact (h.cw _ b hh).2
    rw [fp2out l hm] at hb;have:=h.cw l b hb;exact ⟨q18 this.1 hR.size,this.2⟩
  . rcases hb with hs|hs
    . have:=h.sB b hs;exact ⟨q18 this.1 hR.size,this.2⟩
    exact ⟨(hR.sB b hs.1).1,.inl (q17 h.size hs.2)⟩
  refine (iY b (q18 hb h.size) fun j hj hb'=> ?_).trans (h.base b hb hio);rcases (h.cw _ b hb').2 with hh|hh
  . omega
  exact hio _ hh.choose_spec.1
 exact ⟨v,r,io',fp2,T,rfl,gK,hRS,hrd.mono (fun _ _=>rfl) hST⟩
end
def rV (P:Program) (f:FuncId) (ρ:lN) (io:List bj) (args:lA) (m:Mem) (k:AV->Mem->Prop) (_:Pack k):Prop:=
 ∃post,qw P f io args post/\∀r io',post r io'->k r (fW ρ io' m)
@[congr] theorem QS {P:Program} {f:FuncId} {ρ:lN} {io io':List bj} {args args':lA} {m:Mem} {k:AV->Mem->Prop} {q:Pack k} (h:io=io') (h':args=args'):rV P f ρ io args m k q=rV P f ρ io' args' m k q:=by rw [h,h']
theorem dL {P:Program} {f:FuncId} {ρ:lN} {io:List bj} {args:lA} {post:AV->List bj->Prop} {m:Mem} {k:AV->Mem->Prop} (h:qw P f io args post) (hk:∀r io',post r io'->k r (fW ρ io' m)) {q:Pack k}:rV P f ρ io args m k q:=
 ⟨_,h,hk⟩
theorem E8 {P:Program} {f:FuncId} {xs:lA} {m:Mem} {k:AV->Mem->Prop} (ρ:lN) (h:pI m (fun io=>oD ρ (fun args=>rV P f ρ io args m k ⟨⟩) [] xs) [] ρ):gY P f xs m k:=by refine fun B N φ fp S ts a w vs hRS hsz hx hxl=> ?_;obtain ⟨hnd,io,h1,h2,h3⟩:=xo ρ [] h;rw [List.reverse_nil,q14] at h1;obtain ⟨args,g1,g2,g3⟩:=xq (w:=w) (S:=S) (φ:=φ) h2 h3 xs vs.toList [] (by simpa using hsz) hx hxl h1;rw [List.reverse_nil,q14] at g1;obtain ⟨post,hf,hk⟩:=g1;refine ⟨hf.1,(E7 hnd h2 h3 hRS (hsz.trans g2.symm) g3 hf (xs:=xs)).mono ?_⟩;rintro e w' ⟨v,r,io',fp2,T,rfl,gK,hR,hrd⟩;exact ⟨v,rfl,φ,fp2,T,ts,_,r,hR,.rd _ _ hrd,fun l ae hl=>(by rw [fT hrd] at hl;cases hl),rfl,hk r io' gK⟩
theorem ig {P:Program} {f:FuncId} {d:Nat} {xs ts:lA} {m:Mem} {k:AV->Mem->Prop} (ρ:lN) (h:pI m (fun io=>oD ρ (fun args=>rV P f ρ io args m k ⟨⟩) [] xs) [] ρ) {q:Pack k}:e6 P f d xs ts m k q:=
 .inl (E8 ρ h)
attribute [go_sem] LD
section
variable {P:Program} {N:Nat} {ts:Env} {m:Mem}
theorem RS.U8 {B:eE} {φ:Nat->LS} {fp:Nat->lN} {S:Nat->Prop} {a:Act} {w:World} (hRS:RS B N φ fp S ts m a w) (lb vb j l v i n:Nat) (sh:Sh) (d:Bool) (xs ys:lA) (hl:l<bE) (hb:ah m lb=some (.box vb xs)) (hx:xs[j]? =some (.ref l v i n))
 (hm:ah m l=some (.row v sh d ys)) (hn:i+n<=ys.length):
 RS B N (uq l φ) (GX l fp) (fun b=>S b\/b∈fp l) ts ((lb,.box vb (xs.set j (.arr sh ((ys.drop i).take n))))::(l,.gone v)::m) a w:=by
 have hf:=hRS.XH hl hm (v:=v) rfl;have hne:lb≠l:=by rintro rfl;rw [hb] at hm;cases hm
 obtain ⟨hj,hx'⟩:=q8.1 hx;obtain ⟨b,cs,e,sh2,h1,h2,h3,h4,h5,h6⟩:=hRS.aF lb _ hb;have hrd:=Ck hRS hl hm hn (hx'▸h6 j hj);have hb2:ah ((l,bj.gone v)::m) lb=some (.box vb xs):=by rw [aw,if_neg (Ne.symm hne)];exact hb
 have hkn:∀k ae,known ((l,bj.gone v)::m) k ae->known ((lb,.box vb (xs.set j (.arr sh ((ys.drop i).take n))))::(l,.gone v)::m) k ae:=by
  rintro k ae ⟨b0,g1,g2⟩;by_cases e:lb=k
  . subst e;rw [hb2] at g1;injection g1 with g1;subst g1
    exact ⟨.box vb (xs.set j (.arr sh ((ys.drop i).take n))),by rw [aw,if_pos rfl],g2⟩
  exact ⟨b0,by rw [aw,if_neg e];exact g1,g2⟩
 refine {hf with tl:=fun t k ae hk=>hkn k ae (hf.tl t k ae hk),b7:=fun k hk=> ?_,aF:=fun k b0 hk=> ?_,bl:=fun k v' zs hk k' ae hl'=> ?_,kn:=fun k ae hk hk2=>hkn k ae (hf.kn k ae hk hk2)}
 . rw [aw] at hk;split at hk
   . cases hk
   exact hf.b7 k hk
 . rw [aw] at hk;split at hk
   . rename_i e0;subst e0;injection hk with hk
     subst hk;obtain ⟨b',cs',e',sh',g1,g2,g3,g4,g5,g6⟩:=hf.aF lb _ hb2;refine ⟨b',cs',e',sh',g1,g2,g3,by simpa using g4,fun q hq=> ?_,fun q hq=> ?_⟩
     . rw [List.getElem_set];split
       . trivial
       exact g5 q (by simpa using hq)
     rw [List.getElem_set];split
     . rename_i e2;subst e2;refine .rd _ _ ?_;have hbb:b'=b:=by
        have:uq l φ lb=φ lb:=rp hne;rw [this,h1] at g1;cases g1;rfl
       subst hbb;rw [h3] at g3;injection g3 with g3;injection g3 with g3 _ _
       subst g3;exact hrd
     exact g6 q (by simpa using hq)
   exact hf.aF k b0 hk
 rw [aw] at hk;split at hk
 . rename_i e0;injection hk with hk
   injection hk with _ hk
   subst hk;obtain ⟨q,hq,hlq⟩:=bW hl';rw [List.getElem_set] at hlq;split at hlq
   . cases hlq
   have hq2:q<xs.length:=by simpa using hq
   exact hkn k' ae (hf.bl lb vb xs hb2 k' ae (bt hq2 hlq))
 exact hkn k' ae (hf.bl k v' zs hk k' ae hl')
theorem aj.U8 {code:Code} {Q:dc} {q:Pack (code,Q)} (lb vb j l v i n:Nat) (sh:Sh) (d:Bool) (xs ys:lA) (hl:l<bE) (hb:ah m lb=some (.box vb xs)) (hx:xs[j]? =some (.ref l v i n))
 (hm:ah m l=some (.row v sh d ys)) (hn:i+n<=ys.length)
 (h:aj P N code ts ((lb,.box vb (xs.set j (.arr sh ((ys.drop i).take n))))::(l,.gone v)::m) Q q):aj P N code ts m Q q:=
 ⟨fun B φ fp S a w hRS=>h.ok B _ _ _ a w (hRS.U8 lb vb j l v i n sh d xs ys hl hb hx hm hn)⟩
end
section
variable {P:Program} {B:eE} {N:Nat} {φ:Nat->LS} {fp:Nat->lN} {S:Nat->Prop} {ts:Env} {m:Mem} {a:Act} {w:World}
theorem oL {f:FuncId} {d:Nat} {xs xt:lA} {m:Mem} {k:AV->Mem->Prop} {q:Pack k} {fn:Func} {c:Code} (K J:Nat) (N:Nat) (rs:List ResultVar) (hf:P.funcs[f]? =some fn) (hN:fn.ntmps=N) (hr:fn.results.toList=rs)
 (hn:(fn.name== "runtime.NumGoroutine")=false) (hb:fn.body=some c) (hok:codeOk N c=true) (ha:xs.length≤N)
 (hv:(oG (eR K [] m) m/\p9 (kI (eR K [] m) m))/\vc P N c (bH 0 (mr (eR K [] m) xs)) (kI (eR K [] m) m)
   (Of P rs fun x m'=>rN (eR J [] m')/\k (rM (eR K [] m) (pK (eR J [] m') x)) (rL (eR K [] m) (kI (eR J [] m') m')))):e6 P f d xs xt m k q:=by
 subst hN;subst hr;refine .inl fun B N φ fp S ts a w vs hRS hsz hx hxl=>⟨⟨fn,c,hf,hn,hb⟩,?_⟩;refine (sM J hf hb hok _ hRS hv.1.1 hv.1.2 ha hsz hx hxl hv.2).mono ?_;rintro e w' ⟨v,rfl,φ',fp',S',m',x,g1,g2,g3,g4,_⟩;exact ⟨v,rfl,φ',fp',S',ts,m',x,g1,g2,g3,rfl,g4⟩
inductive WD (m:Mem):Mem->Prop
 |refl:WD m m
 |box (lb vb j l v i n:Nat) (sh:Sh) (d:Bool) (xs ys:List AV) (hl:l<bE) (hb:ah m lb=some (.box vb xs)) (hx:xs[j]? =some (.ref l v i n)) (hm:ah m l=some (.row v sh d ys)) (hn:i+n<=ys.length):
   WD m ((lb,.box vb (xs.set j (.arr sh ((ys.drop i).take n))))::(l,.gone v)::m)
theorem RS.CI (h:RS B N φ fp S ts m a w) {l v i l2:Nat} {xs ys:lA} {sh2:Sh} (hl:l<bE) (hlk:ah m l=some (.row v ⟨1,false⟩ true xs)) (hx:xs[i]? =some (.arr sh2 ys)) (hy:0<ys.length) (QD:ah m l2=none):
 ∃φ2 fp2 u,RS B N φ2 fp2 S ts ((l2,.sub 0 sh2 ys u)::(l,.row v ⟨1,false⟩ true (xs.set i (.val u)))::m) a w:=by
 obtain ⟨hi,hxi⟩:=q8.1 hx;have hne:l2≠l:=fun e=>by rw [e,hlk] at QD;cases QD
 rcases h.aF l _ hlk with ⟨_,h0,_⟩|⟨b,cap,hφ,hbm,_,bc⟩
 . rw [h0] at hi;exact absurd hi (q19 _)
 simp only [if_true] at bc;rcases ka bc with ⟨h0,_⟩|⟨b',cap',cs,e',fss,q1,hfp,aD,hc,hl',hm,hf,hs,hv⟩
 . rw [h0] at hi;exact absurd hi (q19 _)
 simp only [Value.slice.injEq,Option.some.injEq,Addr.mk.injEq] at q1;obtain ⟨⟨rfl,_⟩,_,rfl⟩:=q1;have hvi:=hv i hi;rw [hxi,bg,Nat.mul_one] at hvi;generalize hu:cs.toList.getD i Go.undef=u at hvi;have hlf:i<fss.length:=by omega
 have huo:u.oneCell'=true:=hvi.aU trivial;have S8:(fss.set i []).set i (fss.getD i [])=fss:=by
  rw [List.set_set];refine List.ext_getElem (by simp) fun j h1 h2=> ?_;rw [List.getElem_set];split
  . rename_i e;subst e;rw [q5,q6 hlf];rfl
  rfl
 have GB:fss.flatten.Perm (fss.getD i []++(fss.set i []).flatten):=by
  have:=gw (fss.getD i []) (fss.set i []) i (by simpa using hlf) (by simp [q5,hlf])
  rwa [S8] at this
 have hpm:(fp l).Perm (fss.getD i []++(b::(fss.set i []).flatten)):=by rw [hfp];exact (GB.cons b).trans List.perm_middle.symm
 have nI:=hpm.nodup_iff.1 (h.gZ l);have nI:=List.nodup_append.1 nI;have hin:∀c,c∈b::(fss.set i []).flatten->c∈fp l:=fun c hc=>hpm.mem_iff.2 (List.mem_append_right _ hc);have MU:∀c,c∈fss.getD i []->c∈fp l:=fun c hc=>hpm.mem_iff.2 (List.mem_append_left _ hc);have R1:RS B N (nJ φ l (φ l)) (nJ fp l (b::(fss.set i []).flatten)) S ts ((l,.row v ⟨1,false⟩ true (xs.set i (.val u)))::m) a w:=by
  refine h.next l (φ l) _ S _ (q16 _) (a8.refl _) (jD.refl _) (fun _ _ _=>rfl) (fun c hc=>⟨hc,rfl⟩) (fun c h1 h2=>absurd h1 h2) (fun l b sh ae cs e _ hb=>⟨cs,e,hb,rfl⟩)
   (fun _ _ _ _=>rfl) (fun ae _=>LS.le_refl _ _) ?_ ?_ (fun _ _ hk=>by cases hk) nI.2.1 ?_
  . rintro ae ⟨k',h1,h2⟩;rw [hlk] at h1;cases h1;exact h2
  . refine .inr ⟨b,cap,by rw [aB];exact hφ,q12 ..,fun h=>(by cases h),?_⟩;refine .arr ⟨1,false⟩ (xs.set i (.val u)) b cap cs e' (fss.set i []) aD hc (by simpa using hl') hm (fun j hj=> ?_) (by simpa using hs) fun j hj=> ?_
    . rw [List.getElem_set];split
      . exact ⟨rfl,rfl⟩
      exact hf j (by simpa using hj)
    have hj':j<xs.length:=by simpa using hj
    by_cases e:i=j
    . subst e;have e1:(fss.set i []).getD i []=[]:=by simp [q5,hlf]
      rw [List.getElem_set_self,e1,bg,Nat.mul_one,hu];exact .rd _ _ (.val _ huo)
    have e1:(fss.set i []).getD j []=fss.getD j []:=by simp [q5,e]
    rw [List.getElem_set_ne e,e1];exact hv j hj'
  intro c hc;have:=h.cw l c (hin c hc);exact ⟨h.bQ l c (hin c hc),fun l' hl' hc'=>hl' (h.fI l' l c hc' (hin c hc)),this.1,this.2⟩
 rcases ka hvi with ⟨g1,g2,g3⟩|⟨b2,cap2,cs2,e2,fss2,g1,g2,g3,g4,g5,g6,g7,g8,g9⟩
 . rw [g1] at hy;exact absurd hy (q19 _)
 have hno:ah ((l,bj.row v ⟨1,false⟩ true (xs.set i (.val u)))::m) l2=none:=by rw [aw,if_neg (Ne.symm hne)];exact QD
 refine ⟨_,_,u,R1.next l2 (.at b2 sh2 0) (fss.getD i []) S _ (q16 _) (a8.refl _) (jD.refl _) (fun _ _ _=>rfl) (fun c hc=>⟨hc,rfl⟩) (fun c h1 h2=>absurd h1 h2) (fun l b sh ae cs e _ hb=>⟨cs,e,hb,rfl⟩)
  (fun _ _ _ _=>rfl) ?_ ?_ ?_ (fun _ _ hk=>by cases hk) nI.1 ?_⟩
 . rintro ae ⟨k',h1,_⟩;rw [hno] at h1;cases h1
 . rintro ae ⟨k',h1,_⟩;rw [hno] at h1;cases h1
 . exact ⟨b2,cap2,aB _ _ _,by rw [g2];simp,g1,hvi⟩
 intro c hc;have:=h.cw l c (MU c hc);refine ⟨h.bQ l c (MU c hc),fun l' hl' hc'=> ?_,this.1,.inl (this.2.resolve_right fun hh=>Nat.lt_irrefl _ (q18 hl hh.choose_spec.2.1))⟩;by_cases e:l'=l
 . subst e;rw [aB] at hc';exact nI.2.2 c hc c hc' rfl
 rw [bA _ _ _ _ e] at hc';exact e (h.fI l' l c hc' (MU c hc))
theorem RS.Jz (h:RS B N φ fp S ts m a w) {l v i l2 v2:Nat} {xs ys:lA} {sh2:Sh} {u:Value} (hl2:l2<bE) (hlk:ah m l=some (.row v ⟨1,false⟩ true xs)) (hx:xs[i]? =some (.val u)) (kh:ah m l2=some (.sub v2 sh2 ys u)):
 ∃φ2 fp2,RS B N φ2 fp2 S ts ((l,.row v ⟨1,false⟩ true (xs.set i (.arr sh2 ys)))::(l2,.gone v2)::m) a w:=by
 obtain ⟨hi,hxi⟩:=q8.1 hx;have hne:l2≠l:=fun e=>by rw [e,hlk] at kh;cases kh
 rcases h.aF l _ hlk with ⟨_,h0,_⟩|⟨b,cap,hφ,hbm,_,bc⟩
 . rw [h0] at hi;exact absurd hi (q19 _)
 simp only [if_true] at bc;rcases ka bc with ⟨h0,_⟩|⟨b',cap',cs,e',fss,q1,hfp,aD,hc,hl',hm,hf,hs,hv⟩
 . rw [h0] at hi;exact absurd hi (q19 _)
 simp only [Value.slice.injEq,Option.some.injEq,Addr.mk.injEq] at q1;obtain ⟨⟨rfl,_⟩,_,rfl⟩:=q1;obtain ⟨b2,cap2,Zp,Zq,hu2,Xp⟩:=h.aF l2 _ kh;have hlf:i<fss.length:=by omega
 have hvi:=hv i hi;rw [hxi,bg,Nat.mul_one] at hvi;obtain ⟨hu,hfe,huo⟩:=Rb hvi;have hR1:=h.QX l2 _ kh S (fun _ h=>h) (fun b h1 h2=>absurd h1 h2);have GB:=gw (fp l2) fss i hlf hfe;have hpm:(b::(fss.set i (fp l2)).flatten).Perm (fp l2++fp l):=by rw [hfp];exact (GB.cons b).trans List.perm_middle.symm
 have Yy:∀c,c∈b::(fss.set i (fp l2)).flatten->c∈fp l2\/c∈fp l:=fun c hc=>List.mem_append.1 (hpm.mem_iff.1 hc);have hnl:l≠l2:=Ne.symm hne;have VM:nJ φ l2 .dead l=φ l:=bA _ _ _ _ hnl
 refine ⟨_,_,hR1.next l (φ l) (b::(fss.set i (fp l2)).flatten) S _ (q16 _) (a8.refl _) (jD.refl _) (fun _ _ _=>rfl) (fun c hc=>⟨hc,rfl⟩) (fun c h1 h2=>absurd h1 h2) (fun l b sh ae cs e _ hb=>⟨cs,e,hb,rfl⟩)
  (fun _ _ _ _=>rfl) (fun ae _=>by rw [VM];exact LS.le_refl _ _) ?_ ?_ (fun _ _ hk=>by cases hk) ?_ ?_⟩
 . rintro ae ⟨k',h1,h2⟩;rw [aw,if_neg hne,hlk] at h1;cases h1;exact h2
 . refine .inr ⟨b,cap,by rw [aB];exact hφ,q12 ..,fun h=>(by cases h),?_⟩;refine .arr ⟨1,false⟩ (xs.set i (.arr sh2 ys)) b cap cs e' (fss.set i (fp l2)) aD hc (by simpa using hl') hm (fun j hj=> ?_) (by simpa using hs) fun j hj=> ?_
   . rw [List.getElem_set];split
     . exact ⟨rfl,rfl⟩
     exact hf j (by simpa using hj)
   have hj':j<xs.length:=by simpa using hj
   by_cases ej:i=j
   . subst ej;have e1:(fss.set i (fp l2)).getD i []=fp l2:=by simp [q5,hlf]
     rw [List.getElem_set_self,e1,bg,Nat.mul_one,hu];exact Xp
   have e1:(fss.set i (fp l2)).getD j []=fss.getD j []:=by simp [q5,ej]
   rw [List.getElem_set_ne ej,e1];exact hv j hj'
 . refine hpm.nodup_iff.2 (List.nodup_append.2 ⟨h.gZ l2,h.gZ l,fun c h1 c' h2 e=> ?_⟩);subst e;exact hne (h.fI l2 l c h1 h2)
 intro c hc;have Xq:∀l',l'≠l->c∈nJ fp l2 [] l'->c∈fp l'/\l'≠l2:=fun l' hl' hc'=>by
  by_cases e2:l'=l2
  . subst e2;rw [aB] at hc';cases hc'
  rw [bA _ _ _ _ e2] at hc';exact ⟨hc',e2⟩
 rcases Yy c hc with hcl|hcl
 . have:=h.cw l2 c hcl;refine ⟨h.bQ l2 c hcl,fun l' hl' hc'=> ?_,this.1,.inl (this.2.resolve_right fun hh=>Nat.lt_irrefl _ (q18 hl2 hh.choose_spec.2.1))⟩;obtain ⟨h1,h2⟩:=Xq l' hl' hc';exact h2 (h.fI l' l2 c h1 hcl)
 have:=h.cw l c hcl;refine ⟨h.bQ l c hcl,fun l' hl' hc'=> ?_,this.1,this.2⟩;obtain ⟨h1,h2⟩:=Xq l' hl' hc';exact hl' (h.fI l' l c h1 hcl)
theorem aj.CI {code:Code} {Q:dc} {q:Pack (code,Q)} (l v i l2:Nat) (xs ys:lA) (sh2:Sh) (hl:l<bE) (hlk:ah m l=some (.row v ⟨1,false⟩ true xs)) (hx:xs[i]? =some (.arr sh2 ys)) (hy:0<ys.length) (QD:ah m l2=none)
 (h:∀u,aj P N code ts ((l2,.sub 0 sh2 ys u)::(l,.row v ⟨1,false⟩ true (xs.set i (.val u)))::m) Q q):aj P N code ts m Q q:=
 ⟨fun B φ fp S a w hRS=>have ⟨_,_,u,hR⟩:=hRS.CI hl hlk hx hy QD;(h u).ok B _ _ _ a w hR⟩
theorem RS.known (h:RS B N φ fp S ts m a w) {t l v n:Nat} {sh:Sh} {ys:lA} (ht:look ts t= .ref l v 0 n) (htN:t<N) (hlk:ah m l=some (.row v sh true ys)) (hn:n=ys.length) (h0:0<n) (hsz:0<sh.sz):
 ∃φ2 fp2 u,RS B N φ2 fp2 S ((t,.val u)::ts) ((l,.sub v sh ys u)::m) a w:=by
 subst hn;rcases h.aF l _ hlk with ⟨_,e0,_⟩|⟨b,cap,hφ,hbm,_,bc⟩
 . rw [e0] at h0;exact absurd h0 (Nat.lt_irrefl _)
 simp only [if_true] at bc;have htm:=h.tm t;rw [ht] at htm;have hr:=dm htm;obtain ⟨ad,cp,hv,hnc,hcp⟩:=hr.1 b sh hφ;obtain ⟨rfl,cs,e,g1,g2⟩:=hcp.resolve_left (by omega);rw [Nat.zero_mul] at hv;have Qr:=bc;rcases ka bc with ⟨e0,_⟩|⟨b',cap',cs',e',fss,q1,hfp,aD,hc,hl',hm,hf,hs,hvv⟩
 . rw [e0] at h0;exact absurd h0 (Nat.lt_irrefl _)
 simp only [Value.slice.injEq,Option.some.injEq,Addr.mk.injEq] at q1;obtain ⟨⟨rfl,_⟩,_,rfl⟩:=q1;obtain rfl:=db (aD.symm.trans g1);have hcc:cp=cap:=by
  have:cp*sh.sz=cap*sh.sz:=by rw [←hc,g2,q20]
  exact Nat.eq_of_mul_eq_mul_right hsz this
 subst hcc;have R1:RS B N (nJ φ l (φ l)) (nJ fp l (fp l)) S ts ((l,.sub v sh ys (.slice (some ⟨b,0,none⟩) ys.length cp))::m) a w:=by
  refine h.next l (φ l) (fp l) S _ (q16 _) (a8.refl _) (jD.refl _) (fun _ _ _=>rfl) (fun c hc=>⟨hc,rfl⟩) (fun c h1 h2=>absurd h1 h2) (fun l b sh ae cs e _ hb=>⟨cs,e,hb,rfl⟩)
   (fun _ _ _ _=>rfl) (fun ae _=>LS.le_refl _ _) ?_ ?_ (fun _ _ hk=>by cases hk) (h.gZ l) ?_
  . rintro ae ⟨k',h1,h2⟩;rw [hlk] at h1;cases h1;exact h2
  . exact ⟨b,cp,by rw [aB];exact hφ,hbm,rfl,Qr⟩
  intro c hc;have:=h.cw l c hc;exact ⟨h.bQ l c hc,fun l' hl' hc'=>hl' (h.fI l' l c hc' hc),this.1,this.2⟩
 refine ⟨_,_,_,{R1 with tm:=fun t'=> ?_,tl:=fun t' l' ae hl'=> ?_}⟩
 . rw [cP];split
   . rename_i e;subst e;rw [hv];exact .rd _ _ (.val _ rfl)
   exact R1.tm t'
 rw [cP] at hl';split at hl'
 . cases hl'
 exact R1.tl t' l' ae hl'
theorem aj.known {code:Code} {Q:dc} {q:Pack (code,Q)} (t l v n:Nat) (sh:Sh) (ys:lA) (ht:look ts t= .ref l v 0 n) (htN:t<N) (hlk:ah m l=some (.row v sh true ys)) (hn:n=ys.length) (h0:0<n) (hsz:0<sh.sz)
 (h:∀u,aj P N code ((t,.val u)::ts) ((l,.sub v sh ys u)::m) Q q):aj P N code ts m Q q:=
 ⟨fun B φ fp S a w hRS=>have ⟨_,_,u,hR⟩:=hRS.known ht htN hlk hn h0 hsz;(h u).ok B _ _ _ a w hR⟩
theorem aj.vc {code:Code} {Q:dc} {q:Pack (code,Q)} (hok:codeOk N code=true) (h:vc P N code ts m Q):aj P N code ts m Q q:=⟨cD code _ _ _ hok h⟩
theorem RS.O6 (h:RS B N φ fp S ts m a w) {l v:Nat} {sh:Sh} {xs:lA} (hio:l<bE) (hlk:ah m l=some (.row v sh true xs)):∃fp2 S2,RS B N φ fp2 S2 ts ((l,.row v sh false xs)::m) a w/\∀c,S c->S2 c:=by
 have T8:nJ φ l (φ l)=φ:=funext fun k=>by unfold nJ;split<;>simp_all
 rcases h.aF l _ hlk with ⟨h1,h2,h3⟩|⟨b,cap,hφ,hbm,_,bc⟩
 . have hR:=h.next l (φ l) [] S (.row v sh false xs) (q16 _) (a8.refl _) (jD.refl _) (fun _ _ _=>rfl) (fun c hc=>⟨hc,rfl⟩) (fun c h1 h2=>absurd h1 h2) (fun l b sh ae cs e _ hb=>⟨cs,e,hb,rfl⟩)
    (fun _ _ _ _=>rfl) (fun ae _=>LS.le_refl _ _) (by
      rintro ae ⟨k',g1,g2⟩
      rw [hlk] at g1;cases g1;exact g2) (.inl ⟨by rw [aB];exact h1,h2,rfl⟩) (fun _ _ hk=>by cases hk) q15 (fun c hc=>by cases hc)
   rw [T8] at hR;exact ⟨_,_,hR,fun _ h=>h⟩
 simp only [if_true] at bc;obtain ⟨cs,e,fss,hgf,aD,hcs,b6,hmx,hff,hfl,hvv⟩:=gA bc hbm;obtain ⟨S',hR,hS,_⟩:=h.Cc hlk hφ hgf aD hcs b6 hmx hff hfl hvv hio;rw [T8] at hR;exact ⟨_,_,hR,hS⟩
theorem RS.Sz (h:RS B N φ fp S ts m a w) {l v:Nat} {sh:Sh} {xs:lA} (hio:l<bE) (hlk:ah m l=some (.row v sh true xs)):∃φ2 fp2 S2,RS B N φ2 fp2 S2 ts ((l,.row v sh false xs)::m) a w:=
 have ⟨_,_,hR,_⟩:=h.O6 hio hlk
 ⟨_,_,_,hR⟩
end
def hk (P:Program) (n:St):St:=fun ts m=>∀(B:eE) (N:Nat) (φ:Nat->LS) (fp:Nat->lN) (S:Nat->Prop) (a:Act) (w:World),RS B N φ fp S ts m a w->∃φ2 fp2 S2 ts2 m2,RS B N φ2 fp2 S2 ts2 m2 a w/\n ts2 m2
@[congr] theorem WE {P:Program} {n:St} {ts ts':Env} {m m':Mem} (h:ts=ts') (h2:m=m'):hk P n ts m=hk P n ts' m':=by rw [h,h2]
theorem hk.go {P:Program} {n:St} {ts:Env} {m:Mem} (h:n ts m):hk P n ts m:=fun _ _ _ _ _ _ _ hR=>⟨_,_,_,_,_,hR,h⟩
theorem hk.back {P:Program} {n:St} {ts:Env} {m:Mem} (l v i l2 v2:Nat) (xs ys:lA) (sh2:Sh) (u:Value) (hl2:l2<bE) (hlk:ah m l=some (.row v ⟨1,false⟩ true xs)) (hx:xs[i]? =some (.val u)) (kh:ah m l2=some (.sub v2 sh2 ys u))
 (h:hk P n ts ((l,.row v ⟨1,false⟩ true (xs.set i (.arr sh2 ys)))::(l2,.gone v2)::m)):hk P n ts m:=fun B N _ _ _ a w hR=>
 have ⟨_,_,hR2⟩:=hR.Jz hl2 hlk hx kh
 h B N _ _ _ a w hR2
theorem aj.U9 {P:Program} {N:Nat} {ts:Env} {m:Mem} {code:Code} {Q:dc} {q:Pack (code,Q)} (h:aj P N code ts m (y9 Q (hk P (Q .normal))) ⟨⟩):aj P N code ts m Q q:=by
 refine ⟨fun B φ fp S a w hRS=>wp_mono (h.ok B φ fp S a w hRS) fun e a' w' hq=> ?_⟩;obtain ⟨φ',fp',S',ts',m',h1,h2⟩:=hq;cases e with
 |normal=>
  obtain ⟨φ2,fp2,S2,ts2,m2,hR,hn⟩:=h2 B N φ' fp' S' a' w' h1;exact ⟨φ2,fp2,S2,ts2,m2,hR,hn⟩
 |_=>exact ⟨φ',fp',S',ts',m',h1,h2⟩
inductive xL:Env->Mem->Env->Mem->Prop
 |here {ts:Env} {m:Mem} {ts2:Env} {m2:Mem} (h:rE ts m ts2 m2):xL ts m ts2 m2
 |mv {ts:Env} {m:Mem} {ts2:Env} {m2:Mem} (l l':Nat) (hl:l<bE) (hl':l'<bE) (h:xL (Hg l l' ts) (xu l l' m) ts2 m2):xL ts m ts2 m2
 |back {ts:Env} {m:Mem} {ts2:Env} {m2:Mem} (l v i l2 v2:Nat) (xs ys:List AV) (sh2:Sh) (u:Value) (hl2:l2<bE) (hlk:ah m l=some (.row v ⟨1,false⟩ true xs)) (hx:xs[i]? =some (.val u)) (kh:ah m l2=some (.sub v2 sh2 ys u))
   (h:xL ts ((l,.row v ⟨1,false⟩ true (xs.set i (.arr sh2 ys)))::(l2,.gone v2)::m) ts2 m2):xL ts m ts2 m2
section
variable {B:eE} {N:Nat} {S:Nat->Prop} {ts:Env} {m:Mem} {a:Act} {w:World} {P:Program}
theorem RS.JA {ts2:Env} {m2:Mem} (hr:xL ts m ts2 m2):∀{φ:Nat->LS} {fp:Nat->lN},RS B N φ fp S ts m a w->∃φ' fp' S',RS B N φ' fp' S' ts2 m2 a w:=by
 induction hr with
 |here h=>intro φ fp hR;exact ⟨_,_,_,hR.refine h⟩
 |mv l l' hl hl' _ ih=>intro φ fp hR;exact ih (hR.Dr hl hl')
 |back l v i l2 v2 xs ys sh2 u hl2 hlk hx kh _ ih=>
  intro φ fp hR;obtain ⟨_,_,hR2⟩:=hR.Jz hl2 hlk hx kh;exact ih hR2
theorem Ok.WG {body:Code} {ι:Type} (I:ι->Prop) (σ:ι->Env × Mem) (μ:ι->Nat) {Q:dc} (x0:ι) (h0:I x0) (hr:xL ts m (σ x0).1 (σ x0).2)
 (step:∀x,I x->Ok P N body (σ x).1 (σ x).2 (y9 Q fun ts' m'=>∃y,I y/\μ y<μ x/\xL ts' m' (σ y).1 (σ y).2)):Ok P N (.loop body) ts m Q:=by
 intro B φ fp S a w hRS;obtain ⟨Dp,fp0,S0,hR0⟩:=hRS.JA hr;refine wp_loop_ghost (fun n a w=>∃x φ fp S,I x/\μ x=n/\RS B N φ fp S (σ x).1 (σ x).2 a w) (μ x0) ⟨x0,_,_,_,h0,rfl,hR0⟩ ?_;rintro n a w ⟨x,φ,fp,S,hx,rfl,hRS⟩;refine wp_mono (step x hx B φ fp S a w hRS) fun e a' w' hq=> ?_;obtain ⟨φ',fp',S',ts',m',h1,h2⟩:=hq;cases e with
 |normal=>
  obtain ⟨y,hy,hlt,VT⟩:=h2;obtain ⟨φ3,fp3,S3,hR3⟩:=h1.JA VT;exact ⟨μ y,hlt,y,_,_,_,hy,rfl,hR3⟩
 |_=>exact ⟨φ',fp',S',ts',m',h1,h2⟩
theorem aj.Y9 {body:Code} (L D E:lN) (n:Nat) (I:Nat->Prop) (up:Nat->Env) (um:Nat->Mem) {Q:dc} {q:Pack (Code.loop body,Q)} (h0:I 0)
 (hr:xL ts m (up 0++pick L ts) (um 0++ix D E m)) (hok:codeOk N body=true)
 (step:∀i,i<n->I i->aj P N body (up i++pick L ts) (um i++ix D E m) (y9 Q fun ts' m'=>I (i+1)/\xL ts' m' (up (i+1)++pick L ts) (um (i+1)++ix D E m)) ⟨⟩)
 (stop:I n->aj P N body (up n++pick L ts) (um n++ix D E m) (y9 Q fun _ _=>False) ⟨⟩):aj P N (.loop body) ts m Q q:=by
 refine ⟨Ok.WG (fun i=>i<=n/\I i) (fun i=>(up i++pick L ts,um i++ix D E m)) (fun i=>n-i) 0 ⟨Nat.zero_le _,h0⟩ hr fun i ⟨hi,hI⟩=> ?_⟩;rcases Nat.lt_or_ge i n with h|h
 . refine Ok.mono (step i h hI).ok fun e ts' m' hq=> ?_;cases e with
   |normal=>exact ⟨i+1,⟨h,hq.1⟩,by omega,hq.2⟩
   |_=>exact hq
 have e:i=n:=Nat.le_antisymm hi h;subst e;refine Ok.mono (stop hI).ok fun e ts' m' hq=> ?_;cases e with
 |normal=>exact hq.elim
 |_=>exact hq
end
end Go.Vc
