import Derived.StillTail
import Derived.ProofKit
import Derived.OpenShut
import Derived.ChangeOld
import Derived.Below
import Derived.Carry
import Derived.Deep.Slices
import Derived.Test.YtofpaabacebkkaaGreatDoorRows
import Derived.Test.YtofpaabacebkkaaGreatDoorCards
import Derived.Test.YtofpaabacebkkaaGreatDoorTie
import Derived.Lay
import Derived.LaidMore
import Derived.Stop.LaidErr
import Derived.Lib.LaidTab
import Derived.Shelf.Vars
import Derived.SevenTiedAt
import Derived.SizedLaws
import Derived.Sort.Grow
import Derived.Laws.IdiomCopy
import Derived.Deep.Draws
import Derived.Test.YtofpaabacebkkaaGreatDoorPkLawDesksB
open Go.Proofs.Tryz
open Go.Proofs.Tryz renaming prog → pG
open Go renaming undef → uD
set_option linter.unusedVariables false
set_option linter.unusedSimpArgs false
set_option linter.unnecessarySimpa false
set_option maxRecDepth 1000000
set_option maxHeartbeats 16000000
open Array renaming getD_eq_getD_getElem? ->q0,getElem?_eq_some_iff->q1,replicate->q2
open Bool renaming false_eq_true->q3
open List renaming all_eq_true->q4,eq_nil_of_length_eq_zero->q5,getD_eq_getElem?_getD->q6,getElem?_eq_getElem->q7,getElem?_eq_none->q8,getElem?_eq_some_iff->q9,getElem_of_mem->q10,mem_cons->q11,mem_cons_of_mem->q12,mem_cons_self->q13,mem_map->q14,nil_append->q15,nodup_nil->q16
open Nat renaming le_refl->q17,le_trans->q18,lt_of_lt_of_le->q19,not_lt_zero->q20,zero_add->q21
namespace Go.Vc
def D1 {α:Type}(G:(α->Prop)->Prop):Prop:=∀k,G k->∃x,k x/\∀k',k' x->G k'
theorem D1.pure {α:Type}(x:α):D1 λk=>k x:=λ_ h=>⟨x,h,λ_ h=>h⟩
theorem D1.no {α:Type}:D1 λ_:α->Prop=>False:=λ_ h=>h.elim
theorem D1.and {α:Type}{G:(α->Prop)->Prop}(p:Prop)(h:D1 G):D1 λk=>p/\G k:=λk hk=>
 have ⟨x,h1,h2⟩:=h k hk.2
 ⟨x,h1,λk' hk'=>⟨hk.1,h2 k' hk'⟩⟩
theorem D1.bind {α β:Type}{G:(α->Prop)->Prop}{H:α->(β->Prop)->Prop}(h:D1 G)(h':∀x,D1 (H x)):D1 λk=>G λx=>H x k:=λk hk=>
 have ⟨x,h1,h2⟩:=h _ hk;have ⟨y,g1,g2⟩:=h' x k h1
 ⟨y,g1,λk' hk'=>h2 _ (g2 k' hk')⟩
theorem D1.opt (o:Option AV):D1 (kf o):=by
 cases o with
 |none=>exact D1.no
 |some x=>exact D1.pure x
theorem D1.X7 (o:Option (Nat × Nat × Bool)):D1 (vO o):=by
 cases o with
 |none=>exact D1.no
 |some x=>exact D1.pure x
theorem D1.ti (o:Option TI):D1 (ew o):=by
 cases o with
 |none=>exact D1.no
 |some x=>exact D1.pure x
theorem D1.ifs {α:Type}(c:Bool)(x y:α):D1 λk:α->Prop=>(c=true->k x)/\(c=false->k y):=by
 intro k hk;cases c with
 |true=>exact ⟨x,hk.1 rfl,λk' hk'=>⟨λ_=>hk',λh=>(by cases h)⟩⟩
 |false=>exact ⟨y,hk.2 rfl,λk' hk'=>⟨λh=>(by cases h),λ_=>hk'⟩⟩
theorem D1.pick (c a b:AV):D1 (qm c a b):=by
 unfold qm;split
 . exact D1.ifs _ _ _
 exact D1.no
theorem D1.wrap (i:IntKind)(n:Int):D1 (ja i n):=by
 unfold ja;split
 . exact D1.and _ (D1.pure _)
 exact D1.pure _
theorem D1.fx (op:BinOp)(i:IntKind)(x y:Int):D1 (fx op i x y):=by
 unfold Go.Vc.fx
 split<;>first
  |exact D1.wrap _ _
  |exact D1.pure _
  |exact D1.and _ (D1.wrap _ _)
  |exact D1.and _ (D1.pure _)
  |exact D1.no
theorem D1.l_ (op:BinOp)(x y:ByteArray):D1 (l_ op x y):=by
 unfold Go.Vc.l_
 split<;>first
  |exact D1.pure _
  |exact D1.and _ (D1.pure _)
  |exact D1.no
theorem D1.bin (op:BinOp)(kd:TK)(a b:AV):D1 (kL op kd a b):=by
 unfold kL;split
 . exact D1.and _ (D1.fx _ _ _ _)
 . exact D1.l_ _ _ _
 . split<;>first|exact D1.pure _|exact D1.no
 exact D1.no
theorem D1.not (a:AV):D1 (zB a):=by unfold zB;split<;>first|exact D1.pure _|exact D1.no
theorem D1.neg (a:AV):D1 (CC a):=by unfold CC;split<;>first|exact D1.wrap _ _|exact D1.no
theorem D1.conv (d:TK)(a:AV):D1 (uz d a):=by unfold uz;split<;>first|exact D1.wrap _ _|exact D1.pure _|exact D1.no
theorem D1.max (a b:AV):D1 (wz a b):=by unfold wz;split<;>first|exact D1.pure _|exact D1.no
theorem D1.min (a b:AV):D1 (mY a b):=by unfold mY;split<;>first|exact D1.pure _|exact D1.no
theorem D1.aX (i:Nat)(a:AV):D1 (zC i a):=by unfold zC;split<;>first|exact D1.opt _|exact D1.no
theorem D1.part (ag:Bool)(n j:Nat)(x:AV):D1 (dj ag n j x):=by unfold dj;split<;>first|exact D1.opt _|exact D1.and _ (D1.pure _)|exact D1.no
theorem D1.WE (ag:Bool)(n j:Nat)(x:AV):D1 (qQ ag n j x):=by unfold qQ;split<;>first|exact D1.part _ _ _ _|exact D1.no
theorem D1.index (x i:AV):D1 (na x i):=by unfold na;split<;>first|exact D1.and _ (D1.pure _)|exact D1.no
theorem D1.cells (x:AV):D1 (eU x):=by unfold eU;split<;>first|exact D1.pure _|exact D1.no
theorem D1.fill (fs:List (Nat × Nat × Bool)):∀(ps:List (Nat × AV)) (cells:lA),D1 λk=>mA fs cells k ps
 | [],cells=>D1.pure cells
 |(i,x)::r,cells=>D1.bind (H:=λ(fd:Nat × Nat × Bool) k=>eU x λys=>ys.length=fd.2.1/\fd.1+ys.length<=cells.length/\mA fs (jf cells fd.1 ys) k r) (D1.X7 _) λfd=>
    D1.bind (H:=λ(ys:lA) k=>ys.length=fd.2.1/\fd.1+ys.length<=cells.length/\mA fs (jf cells fd.1 ys) k r) (D1.cells x) λys=>D1.and _ (D1.and _ (D1.fill fs r _))
theorem D1.build (ti:TI)(ps:List (Nat × AV)):D1 (qO ti ps):=
 D1.bind (H:=λ(zs:lA) k=>mA ti.fields zs (λcs=>k (AV.agg cs)) ps) (D1.cells _) λzs=>D1.bind (G:=λk=>mA ti.fields zs k ps) (H:=λ(cs:lA) k=>k (AV.agg cs)) (D1.fill _ _ _) λcs=>D1.pure (AV.agg cs)
theorem D1.T' (sh:Sh):∀(ps:List (Nat × AV)) (xs:lA),D1 λk=>ng sh xs k ps
 | [],xs=>D1.pure xs
 |(i,x)::r,xs=>D1.and _ (D1.and _ (D1.and _ (D1.T' sh r _)))
theorem D1.live (v:Nat)(b:Option bf)(x:AV):D1 λk:AV->Prop=>gm v b (k x):=by unfold gm;split<;>first|exact D1.and _ (D1.pure _)|exact D1.no
theorem D1.nil (m:Mem)(x:AV):D1 (r_ m x):=by unfold r_;split<;>first|exact D1.live _ _ _|exact D1.pure _|exact D1.no
theorem D1.field (j:Nat)(m:Mem)(x:AV):D1 (h_ j m x):=by unfold h_;split<;>first|exact D1.live _ _ _|exact D1.pure _|exact D1.no
theorem D1.len (kd:TK)(m:Mem)(x:AV):D1 (m_ kd m x):=by unfold m_;split<;>first|exact D1.live _ _ _|exact D1.pure _|exact D1.no
theorem D1.Zr {α:Type}(sh:Sh)(v:Nat)(b:Option bf){G:(α->Prop)->Prop}(h:D1 G):D1 λk=>CL sh v b (G k):=by unfold CL;split<;>first|exact D1.and _ (D1.and _ h)|exact D1.no
theorem D1.Wr (x:Option AV)(d:Int):D1 (mw x d):=by unfold mw;split<;>first|exact D1.pure _|exact D1.no
theorem D1.X8 (sh:Sh)(l v i0 n:Nat)(i:Int)(b:Option bf):D1 (qw sh l v i0 n i b):=by unfold qw;split<;>first|exact D1.and _ (D1.and _ (D1.and _ (D1.pure _)))|exact D1.and _ (D1.and _ (D1.and _ (D1.and _ (D1.pure _))))|exact D1.no
theorem D1.idx (sh:Sh)(m:Mem)(x i:AV):D1 (oS sh m x i):=by unfold oS;split<;>first|exact D1.and _ (D1.and _ (D1.pure _))|exact D1.X8 _ _ _ _ _ _ _|exact D1.no
theorem D1.slice (sh:Sh)(x:AV)(lo hi:Option AV)(m:Mem):D1 (fQ sh x lo hi m):=by
 unfold fQ;split
 . exact D1.bind (D1.Wr _ _) λl=>D1.bind (D1.Wr _ _) λh=>D1.and _ (D1.pure _)
 . exact D1.bind (D1.Wr _ _) λl=>D1.bind (D1.Wr _ _) λh=>D1.and _ (D1.and _ (D1.pure _))
 . exact D1.Zr _ _ _ (D1.bind (D1.Wr _ _) λl=>D1.bind (D1.Wr _ _) λh=>D1.and _ (D1.pure _))
 exact D1.no
theorem D1.Vl (m:Mem)(x:AV):D1 (jA m x):=by unfold jA;split<;>first|exact D1.pure _|exact D1.live _ _ _|exact D1.and _ (D1.pure _)
theorem D1.OU:∀(xs:lA) (acc:lU),D1 λk=>jC k acc xs
 | [],_=>D1.pure _
 |x::r,acc=>by
  cases x<;>try exact D1.no
  rename_i v;cases v<;>try exact D1.no
  rename_i i z;cases i<;>try exact D1.no
  exact D1.and _ (D1.OU r _)
theorem D1.bytes (y:AV):D1 (oW y):=by unfold oW;split<;>first|exact D1.OU _ _|exact D1.no
theorem D1.Zs (y:AV):D1 (ER y):=by unfold ER;split<;>first|exact D1.and _ (D1.pure _)|exact D1.no
theorem D1.xA {α:Type}(kd:TK){G:(α->Prop)->Prop}(h:D1 G):D1 λk=>Vc.xA kd (G k):=by unfold Vc.xA;split<;>first|exact h|exact D1.no
theorem D1.Zt (P:pR)(tt:TI)(x:AV)(lo hi:Option AV)(m:Mem):D1 (ni P tt x lo hi m):=by
 unfold ni;split
 . exact D1.and _ (D1.slice _ _ _ _ _)
 . exact D1.and _ (D1.bind (D1.ti _) λti=>D1.slice _ _ _ _ _)
 exact D1.no
theorem D1.ki (sh:Sh)(v i n:Nat)(b:Option bf):D1 (rX sh v i n b):=by unfold rX;split<;>first|exact D1.and _ (D1.and _ (D1.and _ (D1.pure _)))|exact D1.no
theorem D1.src (sh:Sh)(y:AV)(m:Mem):D1 (qN sh y m):=by unfold qN;split<;>first|exact D1.and _ (D1.pure _)|exact D1.ki _ _ _ _ _
def NL (x:AV)(l:Nat):Prop:=∃af,(l,af)∈ao x
theorem NL.ref (l v i n:Nat):NL (.ref l v i n) l:=⟨v,by simp[ao]⟩
theorem NL.ptr (l v i j:Nat):NL (.ptr l v i j) l:=⟨v,by simp[ao]⟩
def j1 (R:nP)(m m':Mem):Prop:=∀l,R l->ah m' l=ah m l
theorem OV {m m':Mem}{x:AV}(h:j1 (NL x) m m'):r_ m' x=r_ m x:=by funext k;unfold r_;split<;>first|rfl|exact congrArg (λb=>gm _ b _) (h _ (NL.ptr _ _ _ _))
theorem HV {m m':Mem}{x:AV}(j:Nat)(h:j1 (NL x) m m'):h_ j m' x=h_ j m x:=by funext k;unfold h_;split<;>first|rfl|exact congrArg (λb=>gm _ b _) (h _ (NL.ptr _ _ _ _))
theorem OW {m m':Mem}{x:AV}(kd:TK)(h:j1 (NL x) m m'):m_ kd m' x=m_ kd m x:=by funext k;unfold m_;split<;>first|rfl|rw[h _ (NL.ref _ _ _ _)]
theorem OX {m m':Mem}{x:AV}(sh:Sh)(i:AV)(h:j1 (NL x) m m'):oS sh m' x i=oS sh m x i:=by funext k;unfold oS;split<;>first|rfl|rw[h _ (NL.ref _ _ _ _)]
theorem HW {m m':Mem}{x:AV}(sh:Sh)(lo hi:Option AV)(h:j1 (NL x) m m'):fQ sh x lo hi m'=fQ sh x lo hi m:=by funext k;unfold fQ;split<;>first|rfl|rw[h _ (NL.ref _ _ _ _)]
theorem Fg {m m':Mem}{x:AV}(h:j1 (NL x) m m'):jA m' x=jA m x:=by funext k;unfold jA;split<;>first|rfl|rw[h _ (NL.ref _ _ _ _)]
theorem OY {P:pR}{tt:TI}{m m':Mem}{x:AV}(lo hi:Option AV)(h:j1 (NL x) m m'):ni P tt x lo hi m'=ni P tt x lo hi m:=by funext k;unfold ni;simp only[HW _ _ _ h]
theorem OZ {m m':Mem}{x:AV}(sh:Sh)(h:j1 (NL x) m m'):qN sh x m'=qN sh x m:=by funext k;unfold qN;split<;>first|rfl|rw[h _ (NL.ref _ _ _ _)]
theorem qU {m m':Mem}{x:AV}(h:j1 (NL x) m m'):fB m' x=fB m x:=by funext k;unfold fB;split<;>first|rfl|rw[h _ (NL.ref _ _ _ _)]
theorem sA {m m':Mem}(k:lA->Prop):∀(xs acc:lA),(∀x,x∈xs->j1 (NL x) m m')->cS m' k acc xs=cS m k acc xs
 | [],acc,_=>rfl
 |x::r,acc,h=>by simp only[cS];rw[qU (h x (q13 ..))];congr 1;funext y;exact sA k r _ λz hz=>h z (q12 _ hz)
theorem Lw {m m':Mem}{x:AV}(h:j1 (NL x) m m'):iy m' x=iy m x:=by
 funext k;cases x with
 |agg xs=>
  simp only[iy];refine sA _ xs [] λy hy l hl=>h l ?_;obtain ⟨af,hv⟩:=hl;obtain ⟨i,hi,rfl⟩:=q10 hy;exact ⟨af,by simp only[ao];exact bq hi hv⟩
 |ref l v i n=>simp only[iy];rw[qU h]
 |_=>rfl
theorem qV {m m':Mem}(k:lA->Prop):∀(xs acc:lA),(∀x,x∈xs->j1 (NL x) m m')->dI m' k acc xs=dI m k acc xs
 | [],acc,_=>rfl
 |x::r,acc,h=>by simp only[dI];rw[Lw (h x (q13 ..))];congr 1;funext y;exact qV k r _ λz hz=>h z (q12 _ hz)
theorem dJ (a b:Mem)(l:Nat):ah (a++b) l=match ah a l with|some x=>some x|none=>ah b l:=by
 induction a with
 |nil=>rfl
 |cons p r ih=>
  obtain ⟨k,v⟩:=p;simp only[List.cons_append,aw];by_cases h:k=l
  . simp[h]
  simp[h,ih]
def DM {α:Type}(F:Mem->(α->Mem->Prop)->Prop)(R:nP)(m:Mem):Prop:=
 ∀k,F m k->∃x new,k x (new++m)/\∀m',j1 R m m'->j1 (λl=>ah new l≠none) m m'->∀k',k' x (new++m')->F m' k'
theorem DM.still {α:Type}{R:nP}{m:Mem}{G:Mem->(α->Prop)->Prop}(h:D1 (G m))(hl:∀m',j1 R m m'->G m'=G m):DM (λm k=>G m λv=>k v m) R m:=λk hk=>
 have ⟨x,h1,h2⟩:=h _ hk
 ⟨x,[],h1,λm' hm _ k' hk'=>by show G m' _;rw[hl m' hm];exact h2 _ hk'⟩
theorem DM.no {α:Type}(R:nP)(m:Mem):DM (λ_ (_:α->Mem->Prop)=>False) R m:=λ_ h=>h.elim
theorem DM.and {α:Type}{F:Mem->(α->Mem->Prop)->Prop}{R:nP}{m:Mem}(p:Prop)(h:DM F R m):DM (λm k=>p/\F m k) R m:=λk hk=>
 have ⟨x,new,h1,h2⟩:=h k hk.2
 ⟨x,new,h1,λm' hm hm' k' hk'=>⟨hk.1,h2 m' hm hm' k' hk'⟩⟩
theorem DM.pre {α β:Type}{F:α->Mem->(β->Mem->Prop)->Prop}{G:Mem->(α->Prop)->Prop}{R:nP}{m:Mem}(hg:D1 (G m))(hl:∀m',j1 R m m'->G m'=G m)(h:∀x,DM (F x) R m):
 DM (λm k=>G m λx=>F x m k) R m:=λk hk=>
 have ⟨x,h1,h2⟩:=hg _ hk;have ⟨y,new,g1,g2⟩:=h x k h1
 ⟨y,new,g1,λm' hm hm' k' hk'=>by show G m' _;rw[hl m' hm];exact h2 _ (g2 m' hm hm' k' hk')⟩
theorem DM.Fh {α β:Type}{F:α->Mem->(β->Mem->Prop)->Prop}{G:(α->Prop)->Prop}{R:nP}{m:Mem}(hg:D1 G)(h:∀x,DM (F x) R m):DM (λm k=>G λx=>F x m k) R m:=
 DM.pre (G:=λ_=>G) hg (λ_ _=>rfl) h
theorem DM.bind {α β:Type}{one:Mem->(α->Mem->Prop)->Prop}{rest:α->Mem->(β->Mem->Prop)->Prop}{R:nP}{m:Mem}(h:DM one R m)(h':∀y new,DM (rest y) R (new++m)):
 DM (λm k=>one m λy m1=>rest y m1 k) R m:=λk hk=>by
 obtain ⟨y,n1,h1,h2⟩:=h _ hk;obtain ⟨z,n2,g1,g2⟩:=h' y n1 k h1;refine ⟨z,n2++n1,by rw[List.append_assoc];exact g1,λm' hm hm' k' hk'=>h2 m' hm (λl hl=>hm' l ?_) _ (g2 (n1++m') (λl hl=>?_) (λl hl=>?_) k' (by rw[←List.append_assoc];exact hk'))⟩
 . show ah (n2++n1) l≠none;have hl:ah n1 l≠none:=hl;rw[dJ];split<;>simp_all
 . rw[dJ,dJ,hm l hl]
 rw[dJ,dJ];have hl:ah n2 l≠none:=hl;cases hn:ah n1 l with
 |some x=>rfl
 |none=>exact hm' l (by show ah (n2++n1) l≠none;rw[dJ];split<;>simp_all)
theorem DM.put {α:Type}{R:nP}{m:Mem}{x:Mem->α}(l:Nat)(b:Mem->bf)(hx:∀m',ah m' l=ah m l->x m'=x m/\b m'=b m):DM (λm k=>k (x m) ((l,b m)::m)) R m:=λk hk=>
 ⟨x m,[(l,b m)],hk,λm' _ hm' k' hk'=>by
   obtain ⟨h1,h2⟩:=hx m' (hm' l (by simp[aw]))
   rw[h1,h2];exact hk'⟩
theorem DM.ret {α:Type}{R:nP}{m:Mem}(x:α):DM (λm (k:α->Mem->Prop)=>k x m) R m:=λk hk=>⟨x,[],hk,λ_ _ _ _ hk'=>hk'⟩
theorem gw {m m':Mem}{l:Nat}(h:ah m' l=ah m l):az m' l=az m l:=by simp[az,h]
variable {R:nP}
theorem DM.box (d:Nat)(y:AV)(m:Mem):DM (CH d y) R m:=
 DM.Fh (F:=λys m k=>k (AV.ptr d (az m d) 0 0) ((d,bf.box (az m d) ys)::m)) (D1.cells y) λys=>DM.put (x:=λm=>AV.ptr d (az m d) 0 0) d (λm=>bf.box (az m d) ys) λm' h=>by rw[gw h];exact ⟨rfl,rfl⟩
theorem DM.make (ti:TI)(d:Nat)(x y:AV)(m:Mem):DM (rW ti d x y) R m:=by
 unfold rW;split
 . exact DM.and _ (DM.and _ (DM.and _ (DM.put d _ λm' h=>by rw[gw h];exact ⟨rfl,rfl⟩)))
 exact DM.no _ _
theorem DM.buildSlice (ti:TI)(d n:Nat)(ps:List (Nat × AV))(m:Mem):DM (iw ti d n ps) R m:=
 DM.and _ (DM.Fh (G:=λk=>ng ti.sh (List.replicate n ti.zero) k ps) (F:=λxs m k=>k (AV.ref d (az m d) 0 n) ((d,bf.row (az m d) ti.sh (bm xs) xs)::m)) (D1.T' _ _ _) λxs=>
  DM.put (x:=λm=>AV.ref d (az m d) 0 n) d (λm=>bf.row (az m d) ti.sh (bm xs) xs) λm' h=>by rw[gw h];exact ⟨rfl,rfl⟩)
theorem DM.load (ag:Bool)(n:Nat)(p:AV)(m:Mem):DM (oG ag n p) (NL p) m:=by
 intro k hk;unfold oG at hk;split at hk
 . rename_i l af i j;cases hb:ah m l with
   |none=>rw[hb] at hk;exact hk.elim
   |some b=>
    rw[hb] at hk;have hh:∀m',j1 (NL (.ptr l af i j)) m m'->ah m' l=some b:=λm' hm=>(hm l (NL.ptr _ _ _ _)).trans hb;cases b with
    |gone v=>exact hk.elim
    |box v xs=>
     obtain ⟨h1,h2,hk⟩:=hk;have hd:D1 λq:AV->Prop=>if ag then j+n<=xs.length/\q (.agg ((xs.drop j).take n)) else kf xs[j]? q:=by
      cases ag with
      |true=>exact D1.and _ (D1.pure _)
      |false=>exact D1.opt _
     obtain ⟨x,g1,g2⟩:=hd (λy=>k y m) hk
     exact ⟨x,[],g1,λm' hm _ k' hk'=>by
      show dV ag n l af i j (ah m' l) m' k';rw[hh m' hm]
      exact ⟨h1,h2,g2 (λy=>k' y m') hk'⟩⟩
    |ke v xs i u=>exact hk.elim
    |sub v sh xs u=>
     obtain ⟨h1,hk⟩:=hk;obtain ⟨x,hx,g1⟩:=D1.opt _ _ hk;obtain ⟨y,hy,g2⟩:=D1.part _ _ _ _ _ hx.2;refine ⟨y,[],hy,λm' hm _ k' hk'=>?_⟩;show dV ag n l af i j (ah m' l) m' k';rw[hh m' hm];exact ⟨h1,g1 _ ⟨hx.1,g2 (λy=>k' y m') hk'⟩⟩
    |row v sh deep xs=>
     obtain ⟨h1,hk⟩:=hk;obtain ⟨x,hx,g1⟩:=D1.opt _ _ hk;obtain ⟨y,hy,g2⟩:=D1.part _ _ _ _ _ hx;by_cases hu:deep=true/\cg x=false
     . unfold dG at hy;rw[if_pos hu] at hy;refine ⟨y,[(l,.row v sh false xs)],hy.2,λm' hm _ k' hk'=>?_⟩;show dV ag n l af i j (ah m' l) m' k';rw[hh m' hm];refine ⟨h1,g1 _ (g2 _ ?_)⟩;unfold dG;rw[if_pos hu];exact ⟨hy.1,hk'⟩
     unfold dG at hy;rw[if_neg hu] at hy;refine ⟨y,[],hy,λm' hm _ k' hk'=>?_⟩;show dV ag n l af i j (ah m' l) m' k';rw[hh m' hm];refine ⟨h1,g1 _ (g2 _ ?_)⟩;unfold dG;rw[if_neg hu];exact hk'
 . rename_i sh xs i j;obtain ⟨x,hx,g1⟩:=D1.opt _ _ hk;obtain ⟨y,hy,g2⟩:=D1.part _ _ _ _ _ hx;exact ⟨y,[],hy,λm' _ _ k' hk'=>g1 _ (g2 (λy=>k' y m') hk')⟩
 exact hk.elim
theorem D1.put (j:Nat)(x y:AV):D1 (zD j x y):=by unfold zD;split<;>first|exact D1.and _ (D1.pure _)|exact D1.no
theorem DM.store (n:Nat)(p y:AV)(m:Mem):DM (λm k=>kN n p y m λm'=>k AV.undef m') (NL p) m:=by
 intro k hk;unfold kN at hk;split at hk
 . rename_i l af i j;cases hb:ah m l with
   |none=>rw[hb] at hk;exact hk.elim
   |some b=>
    rw[hb] at hk;have hh:∀m',j1 (NL (.ptr l af i j)) m m'->ah m' l=some b:=λm' hm=>(hm l (NL.ptr _ _ _ _)).trans hb;cases b with
    |gone v=>exact hk.elim
    |box v xs=>
     obtain ⟨h1,h2,hk⟩:=hk;obtain ⟨ys,g1,g2⟩:=D1.cells _ _ hk;refine ⟨.undef,[(l,.box v (jf xs j ys))],g1.2.2,λm' hm _ k' hk'=>?_⟩;show dH l af i j (ah m' l) y m' n _;rw[hh m' hm];exact ⟨h1,h2,g2 _ ⟨g1.1,g1.2.1,hk'⟩⟩
    |ke v xs i0 u0=>exact hk.elim
    |sub v sh xs u0=>
     obtain ⟨h1,h2,hk⟩:=hk;obtain ⟨x,hx,g1⟩:=D1.opt _ _ hk;obtain ⟨h3,h4,hx⟩:=hx;obtain ⟨x',hx',g2⟩:=D1.put _ _ _ _ hx;refine ⟨.undef,[(l,.sub v sh (xs.set i x') u0)],hx',λm' hm _ k' hk'=>?_⟩;show dH l af i j (ah m' l) y m' n _;rw[hh m' hm];exact ⟨h1,h2,g1 _ ⟨h3,h4,g2 _ hk'⟩⟩
    |row v sh deep xs=>
     obtain ⟨h1,h2,hk⟩:=hk;obtain ⟨x,hx,g1⟩:=D1.opt _ _ hk;obtain ⟨h3,h4,hx⟩:=hx;obtain ⟨x',hx',g2⟩:=D1.put _ _ _ _ hx;refine ⟨.undef,[(l,.row v sh deep (xs.set i x'))],hx',λm' hm _ k' hk'=>?_⟩;show dH l af i j (ah m' l) y m' n _;rw[hh m' hm];exact ⟨h1,h2,g1 _ ⟨h3,h4,g2 _ hk'⟩⟩
 exact hk.elim
theorem DM.X9 (ti:TI)(d:Nat)(x:AV)(ys:lA)(m:Mem):DM (oL ti d x ys) (NL x) m:=by
 unfold oL;split
 . rename_i l v i n;intro k hk;cases hb:ah m l with
   |none=>simp only[hb] at hk;exact hk.elim
   |some b=>
    simp only[hb] at hk;cases b with
    |row v' sh deep xs=>
     obtain ⟨h1,h2,h3,h4,h5,hk⟩:=hk;refine ⟨.ref l (v+1) 0 (n+ys.length),[(l,.row (v+1) ti.sh deep (xs.take n++ys))],hk,λm' hm _ k' hk'=>?_⟩;show uT ti l v i n (ah m' l) ys m' k';rw[(hm l (NL.ref _ _ _ _)).trans hb];exact ⟨h1,h2,h3,h4,h5,hk'⟩
    |_=>exact hk.elim
 exact DM.and _ (DM.and _ (DM.put d _ λm' h=>by rw[gw h];exact ⟨rfl,rfl⟩))
theorem DM.mono {α:Type}{F:Mem->(α->Mem->Prop)->Prop}{R R':nP}{m:Mem}(h:DM F R m)(hr:∀l,R l->R' l):DM F R' m:=λk hk=>
 have ⟨x,new,h1,h2⟩:=h k hk
 ⟨x,new,h1,λm' hm hm' k' hk'=>h2 m' (λl hl=>hm l (hr l hl)) hm' k' hk'⟩
theorem DM.app (ti:TI)(d:Nat)(x y:AV)(m:Mem):DM (vR ti d x y) (λl=>NL x l\/NL y l) m:=
 DM.and _ (DM.and _ (DM.and _ (DM.pre (G:=qN ti.sh y) (F:=λys m k=>bm ys=true/\oL ti d x ys m k) (D1.src _ _ _) (λm' hm=>OZ _ λl hl=>hm l (.inr hl)) λys=>
  DM.and _ ((DM.X9 ti d x ys m).mono λl hl=>.inl hl))))
theorem DM.WG (l:Nat)(x:AV)(m:Mem):DM (n7 l x) (λ_=>False) m:=by
 unfold n7;split
 . exact DM.put l _ λm' h=>by rw[gw h];exact ⟨rfl,rfl⟩
 exact DM.ret _
theorem DM.WH:∀(xs:lA) (l:Nat) (acc:lA) (m:Mem),DM (λm k=>qu k l acc m xs) (λ_=>False) m
 | [],l,acc,m=>DM.ret acc.reverse
 |x::r,l,acc,m=>DM.bind (rest:=λy m k=>qu k (l+1) (y::acc) m r) (DM.WG l x m) λy new=>DM.WH r (l+1) (y::acc) (new++m)
theorem DM.WI (l:Nat)(x:AV)(m:Mem):DM (n8 l x) (λ_=>False) m:=by
 unfold n8;split
 . rename_i xs;exact DM.bind (one:=λm k=>qu k l [] m xs) (rest:=λys m k=>k (AV.agg ys) m) (DM.WH xs l [] m) λys new=>DM.ret (AV.agg ys)
 . exact DM.no _ _
 exact DM.WG l _ m
theorem DM.Ua:∀(xs:lA) (l:Nat) (acc:lA) (m:Mem),DM (λm k=>mb k l acc m xs) (λ_=>False) m
 | [],l,acc,m=>DM.ret acc.reverse
 |x::r,l,acc,m=>DM.bind (rest:=λy m k=>mb k (l+16) (y::acc) m r) (DM.WI l x m) λy new=>DM.Ua r (l+16) (y::acc) (new++m)
theorem DM.Zd (l:Nat)(x:AV)(m:Mem):DM (mB l x) (λ_=>False) m:=by
 unfold mB;split
 . rename_i xs;exact DM.bind (one:=λm k=>mb k l [] m xs) (rest:=λys m k=>k (AV.aX ys) m) (DM.Ua xs l [] m) λys new=>DM.ret (AV.aX ys)
 exact DM.WI l _ m
end Go.Vc
namespace Go.Vc
def sC (P:pR)(f:fI)(d:Nat)(ρ:lN)(io:List bf)(args:lA)(m:Mem)(k:AV->Mem->Prop)(_:Pack k):Prop:=
 ∃r io1,oD P f io args (λx io'=>x=r/\io'=io1)/\mB (1000*(d+1)) r (fG ρ io1 m) k
@[congr] theorem Rm {P:pR} {f:fI} {d:Nat} {ρ:lN} {io io':List bf} {args args':lA} {m:Mem} {k:AV->Mem->Prop} {q:Pack k} (h:io=io') (h':args=args'):sC P f d ρ io args m k q=sC P f d ρ io' args' m k q:=by rw[h,h']
theorem o5 {P:pR}{f:fI}{d:Nat}{ρ:lN}{io io1:List bf}{args:lA}{m:Mem}{k:AV->Mem->Prop}{r:AV}(h:oD P f io args (λx io'=>x=r/\io'=io1))(hk:mB (1000*(d+1)) r (fG ρ io1 m) k){q:Pack k}:sC P f d ρ io args m k q:=
 ⟨r,io1,h,hk⟩
def Fi (P:pR)(f:fI)(xs:lA)(m:Mem)(k:AV->Mem->Prop):Prop:=
 ∃r new,k r (new++m)/\∀m',j1 (λl=>∃x,x∈xs/\NL x l) m m'->j1 (λl=>ah new l≠none) m m'->∀k',k' r (new++m')->hU P f xs m' k'
def ie (P:pR)(f:fI)(d:Nat)(xs ts:lA)(m:Mem)(k:AV->Mem->Prop)(_:Pack k):Prop:=(∃own r,Fn P f ts own (· =r)/\(own=false->ax xs)/\U5 own d m r k)∨
 (∃ρ,(∀l,l∈ρ->∃x,x∈xs/\NL x l)/\oY m (λio=>og ρ (λargs=>sC P f d ρ io args m k ⟨⟩) [] xs) [] ρ)\/Fi P f xs m k
@[congr] theorem SD {P:pR} {f:fI} {d:Nat} {xs ts ts':lA} {m:Mem} {k:AV->Mem->Prop} {q:Pack k} (h:ts=ts'):ie P f d xs ts m k q=ie P f d xs ts' m k q:=by rw[h]
theorem an {P:pR}{f:fI}{d:Nat}{xs ts:lA}{m:Mem}{k:AV->Mem->Prop}{r:AV}(h:Fn P f ts true (· =r))(hk:mB (1000*(d+1)) r m k){q:Pack k}:ie P f d xs ts m k q:=
 .inl ⟨true,r,h,λh=>(by cases h),hk⟩
theorem aH {P:pR}{f:fI}{d:Nat}{xs ts:lA}{m:Mem}{k:AV->Mem->Prop}{r:AV}(h:Fn P f ts false (· =r))(hl:ax xs)(hk:k r m){q:Pack k}:ie P f d xs ts m k q:=
 .inl ⟨false,r,h,λ_=>hl,hk⟩
theorem tH {P:pR}{f:fI}{d:Nat}{xs ts:lA}{m:Mem}{k:AV->Mem->Prop}{q:Pack k}(ρ:lN)(hρ:(ρ.all λl=>(aq xs).any λp=>p.1==l)=true)(h:oY m (λio=>og ρ (λargs=>sC P f d ρ io args m k ⟨⟩) [] xs) [] ρ):ie P f d xs ts m k q:=by refine .inr (.inl ⟨ρ,λl hl=>?_,h⟩);rw[q4] at hρ;obtain ⟨p,hp,he⟩:=List.any_eq_true.1 (hρ l hl);obtain ⟨i,hi,hpi⟩:=bM hp;rw[beq_iff_eq] at he;subst he;exact ⟨xs[i],List.getElem_mem hi,p.2,hpi⟩
def nt (P:pR)(f:fI)(d:Nat)(xs:lA)(m:Mem)(k:AV->Mem->Prop):Prop:=dI m (λts=>ie P f d xs ts m k ⟨⟩) [] xs
@[congr] theorem SE {P:pR} {f:fI} {d:Nat} {xs xs':lA} {m:Mem} {k:AV->Mem->Prop} (h:xs=xs'):nt P f d xs m k=nt P f d xs' m k:=by rw[h]
theorem BG (P:pR)(f:fI)(d:Nat)(x:AV)(xs:lA)(m:Mem)(k:AV->Mem->Prop):nt P f d (x::xs) m k=dI m (λts=>ie P f d (x::xs) ts m k ⟨⟩) [] (x::xs):=rfl
theorem D1.O0 (m:Mem)(x:AV):D1 (fB m x):=by
 unfold fB
 split<;>first
  |exact D1.pure _
  |exact D1.no
  |(unfold nZ;split<;>first|exact D1.and _ (D1.and _ (D1.pure _))|exact D1.no)
theorem D1.WJ (P:pR)(si ti:TI)(m:Mem)(x:AV):D1 (fR P si ti x m):=by
 unfold fR;split
 . exact D1.bind (D1.ti _) λei=>D1.xA _ (D1.bind (D1.O0 m x) λy=>D1.bytes y)
 . exact D1.Zs _
 exact D1.conv _ _
theorem HX {P:pR}{si ti:TI}{m m':Mem}{x:AV}(h:j1 (NL x) m m'):fR P si ti x m'=fR P si ti x m:=by funext k;unfold fR;simp only[qU h]
theorem D1.J2 (m:Mem):∀(xs acc:lA),D1 λk=>cS m k acc xs
 | [],acc=>D1.pure acc.reverse
 |x::r,acc=>D1.bind (H:=λy k=>cS m k (y::acc) r) (D1.O0 m x) λy=>D1.J2 m r (y::acc)
theorem D1.tree (m:Mem)(x:AV):D1 (iy m x):=by
 unfold iy;split
 . rename_i xs;exact D1.bind (G:=λk=>cS m k [] xs) (H:=λys k=>k (AV.agg ys)) (D1.J2 m xs []) λys=>D1.pure (AV.agg ys)
 . exact D1.pure _
 . exact D1.pure _
 exact D1.O0 m _
theorem D1.trees (m:Mem):∀(xs acc:lA),D1 λk=>dI m k acc xs
 | [],acc=>D1.pure acc.reverse
 |x::r,acc=>D1.bind (H:=λy k=>dI m k (y::acc) r) (D1.tree m x) λy=>D1.trees m r (y::acc)
theorem DM.res (own:Bool)(d:Nat)(r:AV)(m:Mem):DM (λm k=>U5 own d m r k) (λ_=>False) m:=by
 cases own with
 |true=>exact DM.Zd _ r m
 |false=>exact DM.ret r
theorem D1.X_ {α:Type}(b:Option bf){G:bf->(α->Prop)->Prop}(h:∀b,D1 (G b)):D1 λk=>ss b λb=>G b k:=by unfold ss;split<;>first|exact h _|exact D1.and _ (h _)|exact D1.no
theorem D1.X' (m:Mem):∀(ρ:lN) (acc:List bf),D1 λk=>oY m k acc ρ
 | [],acc=>D1.pure acc.reverse
 |l::r,acc=>D1.and _ (D1.X_ (ah m l) (G:=λb k=>oY m k (b::acc) r) λb=>D1.X' m r (b::acc))
theorem Fj {m m':Mem}(k:List bf->Prop):∀(ρ:lN) (acc:List bf),(∀l,l∈ρ->ah m' l=ah m l)->oY m' k acc ρ=oY m k acc ρ
 | [],acc,_=>rfl
 |l::r,acc,h=>by rw[pO,pO,h l (q13 ..)];have:(λb=>oY m' k (b::acc) r)=λb=>oY m k (b::acc) r:=funext λb=>Fj k r (b::acc) λl' hl=>h l' (q12 _ hl);rw[this]
theorem D1.pos (l:Nat):∀(ρ:lN) (i:Nat),D1 λk=>vW l k i ρ
 | [],_=>D1.no
 |l0::r,i=>by
  have h1:=D1.pos l r (i+1);intro k hk;have hk:vW l k i (l0::r):=hk;rw[kB] at hk;split at hk
  . rename_i e;exact ⟨i,hk,λk' h'=>by show vW l k' i (l0::r);rw[kB,if_pos e];exact h'⟩
  rename_i e;obtain ⟨x,h2,h3⟩:=h1 k hk;exact ⟨x,h2,λk' h'=>by show vW l k' i (l0::r);rw[kB,if_neg e];exact h3 k' h'⟩
theorem D1.DV (ρ:lN)(x:AV):D1 (zH ρ x):=by
 unfold zH
 split<;>first
  |exact D1.pure _
  |exact D1.no
  |exact D1.bind (H:=λj k=>k _) (D1.pos _ ρ 0) λj=>D1.pure _
theorem D1.WK (ρ:lN):∀(xs acc:lA),D1 λk=>qB ρ k acc xs
 | [],acc=>D1.pure acc.reverse
 |x::r,acc=>D1.bind (H:=λy k=>qB ρ k (y::acc) r) (D1.DV ρ x) λy=>D1.WK ρ r (y::acc)
theorem D1.Ya (ρ:lN)(x:AV):D1 (mG ρ x):=by
 unfold mG;split
 . rename_i xs;exact D1.bind (G:=λk=>qB ρ k [] xs) (H:=λys k=>k (AV.agg ys)) (D1.WK ρ xs []) λys=>D1.pure (AV.agg ys)
 exact D1.DV ρ _
theorem D1.Vn (ρ:lN):∀(xs acc:lA),D1 λk=>og ρ k acc xs
 | [],acc=>D1.pure acc.reverse
 |x::r,acc=>D1.bind (H:=λy k=>og ρ k (y::acc) r) (D1.Ya ρ x) λy=>D1.Vn ρ r (y::acc)
theorem mK:∀(ρ:lN) (io:List bf) (m:Mem),fG ρ io m=fG ρ io []++m
 | [],io,m=>by cases io<;>rfl
 |_::_,[],m=>rfl
 |l::ρ,b::io,m=>by rw[kS,kS,mK ρ io m,List.cons_append]
theorem DM.WL (P:pR)(f:fI)(d:Nat)(xs ts:lA)(m:Mem):DM (λm k=>ie P f d xs ts m k ⟨⟩) (λl=>∃x,x∈xs/\NL x l) m:=by
 rintro k (⟨own,r,h1,h2,h3⟩|⟨ρ,hρ,h⟩|⟨r,new,h1,h2⟩)
 rotate_left 2
 . exact ⟨r,new,h1,λm' a b k' hk'=>.inr (.inr ⟨r,new,hk',λm2 c d k2 hk2=>h2 m2 (λl hl=>(c l hl).trans (a l hl)) (λl hl=>(d l hl).trans (b l hl)) k2 hk2⟩)⟩
 . obtain ⟨x,new,g1,g2⟩:=DM.res own d r m k h3;exact ⟨x,new,g1,λm' _ hm' k' hk'=>.inl ⟨own,r,h1,h2,g2 m' (λ_ hl=>hl.elim) hm' k' hk'⟩⟩
 obtain ⟨io,h1,h2⟩:=D1.X' m ρ [] _ h;obtain ⟨args,h3,h4⟩:=D1.Vn ρ xs [] _ h1;obtain ⟨r,io1,hF,hm⟩:=h3;obtain ⟨x,new,g1,g2⟩:=DM.Zd _ r (fG ρ io1 m) k hm;refine ⟨x,new++fG ρ io1 [],by rw[List.append_assoc,←mK];exact g1,λm' hm1 hm' k' hk'=>.inr (.inl ⟨ρ,hρ,?_⟩)⟩;rw[Fj _ ρ [] λl hl=>hm1 l (hρ l hl)];refine h2 _ (h4 _ ⟨r,io1,hF,g2 (fG ρ io1 m') (λ_ hl=>hl.elim) (λl hl=>?_) k' (by rw[mK ρ io1 m',←List.append_assoc];exact hk')⟩);have hl:ah new l≠none:=hl;rw[mK ρ io1 m',mK ρ io1 m,dJ,dJ];have:=hm' l (by show ah (new++fG ρ io1 []) l≠none;rw[dJ];split<;>simp_all);rw[this]
theorem DM.Ub (P:pR)(f:fI)(d:Nat)(xs:lA)(m:Mem):DM (nt P f d xs) (λl=>∃x,x∈xs/\NL x l) m:=
 DM.pre (G:=λm k=>dI m k [] xs) (F:=λts m k=>ie P f d xs ts m k ⟨⟩) (D1.trees m xs []) (λm' hm=>funext λk=>qV k xs [] λx hx l hl=>hm l ⟨x,hx,hl⟩) λts=>DM.WL P f d xs ts m
theorem HY {P:pR}{t:TypeId}{op:BinOp}{a b:AV}{k:AV->Prop}{r r':Prop}(hr:r->r')(h:gq P t op a b k r):gq P t op a b k r':=by
 unfold gq at h ⊢;split at h
 . exact h
 . exact h
 exact hr h
theorem D1.WM (f:FK)(x y:AV):D1 (jg f x y):=by unfold jg;split<;>first|exact D1.and _ (D1.pure _)|exact D1.pure _|exact D1.no
theorem D1.WN:∀(fs:List FK) (xs ys:lA) (acc:Bool),D1 λk=>nY k acc fs xs ys
 | [],xs,ys,acc=>by cases xs<;>cases ys<;>first|exact D1.pure _|exact D1.no
 |f::fs,xs,ys,acc=>by
  cases xs with
  |nil=>cases ys<;>exact D1.no
  |cons x xs=>
   cases ys with
   |nil=>exact D1.no
   |cons y ys=>exact D1.bind (D1.WM f x y) λb=>D1.WN fs xs ys _
theorem D1.Zu (op:BinOp)(c:Bool):D1 (KG op c):=by unfold KG;split<;>first|exact D1.pure _|exact D1.no
theorem D1.fk (o:Option (List FK)):D1 (U0 o):=by
 cases o with
 |none=>exact D1.no
 |some x=>exact D1.pure x
theorem D1.Yb (P:pR)(t:TypeId)(op:BinOp)(kd:TK)(a b:AV):D1 λk=>gq P t op a b k (kL op kd a b k):=by
 unfold gq;split
 . exact D1.bind (D1.fk _) λks=>D1.bind (D1.WN ks _ _ true) λc=>D1.Zu op c
 . cases rR P t op with
   |none=>exact D1.no
   |some c=>exact D1.pure _
 exact D1.bin _ _ _ _
def pU (P:pR)(c:AV)(d:Nat)(xs:lA)(m:Mem)(k:AV->Mem->Prop):Prop:=match c with
 | .cn f ys=>nt P f d (xs++ys) m k
 |_=>False
@[congr] theorem Rn {P:pR} {c c':AV} {d:Nat} {xs xs':lA} {m:Mem} {k:AV->Mem->Prop} (h:c=c') (h':xs=xs'):pU P c d xs m k=pU P c' d xs' m k:=by rw[h,h']
theorem DM.Vo (P:pR)(c:AV)(d:Nat)(xs:lA)(m:Mem):DM (pU P c d xs) (λl=>(∃x,x∈xs/\NL x l)\/NL c l) m:=by
 cases c with
 |cn f ys=>
  refine (DM.Ub P f d (xs++ys) m).mono λl hl=>?_;obtain ⟨x,hx,af,hv⟩:=hl;rcases List.mem_append.1 hx with hx|hx
  . exact .inl ⟨x,hx,af,hv⟩
  obtain ⟨i,hi,rfl⟩:=q10 hx;exact .inr ⟨af,by simp only[ao];exact bq hi hv⟩
 |_=>exact DM.no _ _
def cA (P:pR)(d:Nat)(op:Op)(ts:Env)(m:Mem)(k:AV->Mem->Prop):Prop:=
 match op with
 | .call c=>match c.callee,c.args.toList with
   | .value (.func f),xs=>nt P f d (xs.map (ev ts)) m k
   | .value (.tmp t),xs=>pU P (look ts t) d (xs.map (ev ts)) m k
   | .builtin .append,[x,y]=>kP P c.argTypes.toList d (ev ts x) (ev ts y) m k
   |_,_=>iL P d (.call c) ts m k
 | .binOp op t x y _=>ew (aL P t) λti=>gq P t op (ev ts x) (ev ts y) (λv=>k v m) (kL op ti.kind (ev ts x) (ev ts y) λv=>k v m)
 | .load t x=>ew (aL P t) λti=>oG ti.agg ti.size (ev ts x) m k
 | .store t p y=>ew (aL P t) λti=>kN ti.size (ev ts p) (ev ts y) m λm'=>k .undef m'
 | .indexAddr t x i=>ew (aL P t) λtt=>xr tt.kind (ew (aL P tt.elem) λti=>oS ti.sh m (ev ts x) (ev ts i) λv=>k v m)
 |op=>iL P d op ts m k
theorem HZ {ag:Bool}{n j:Nat}{x:AV}{k k':AV->Prop}(h:∀y,k y->k' y)(hk:dj ag n j x k):dj ag n j x k':=by obtain ⟨y,h1,h2⟩:=D1.part _ _ _ _ _ hk;exact h2 _ (h y h1)
theorem Lx {ag:Bool}{n:Nat}{p:AV}{m:Mem}{k:AV->Mem->Prop}(h:oG ag n p m k):oH ag n p m k:=by
 cases p with
 |ptr l af i j=>
  have h0:dV ag n l af i j (ah m l) m k:=h;show if l<bE then dV ag n l af i j (ah m l) m k else kM ag n l af i j (ah m l) m k
  split
  . exact h0
  rename_i hl;generalize ah m l=b at h0;unfold kM;split
  . obtain ⟨h1,h2⟩:=h0;refine ⟨h1,?_⟩;rename_i xs;cases hx:xs[i]? with
    |none=>rw[hx] at h2;exact h2.elim
    |some x=>
     rw[hx] at h2;rw[tq] at h2 ⊢;refine HZ (λy hy=>?_) h2;unfold dG at hy;unfold qn;split
     . rename_i hc;rw[if_pos hc] at hy;exact absurd hy.1 hl
     rename_i hc;rw[if_neg hc] at hy;exact hy
  exact h0
 |bo=>exact h
 |_=>exact h.elim
theorem H0 {n:Nat}{p y:AV}{m:Mem}{k:Mem->Prop}(h:kN n p y m k):cF n p y m k:=by
 unfold cF;split
 . rename_i l af i j l2 v2 i2 n2;have h:dH l af i j (ah m l) (.ref l2 v2 i2 n2) m n k:=h;unfold nb;split
   . rename_i v xs hb;rw[hb] at h;have:=h.2.1;cases this
   exact h
 exact h
theorem x9 {P:pR}{f:fI}{d:Nat}{xs:lA}{m:Mem}{k:AV->Mem->Prop}(h:nt P f d xs m k):n9 P f d xs m k:=by
 have key:∀(xs acc:lA)(G G':lA->Prop),(∀ts,G ts->G' ts)->dI m G acc xs->dI m G' acc xs:=by intro xs acc G G' hg h;obtain ⟨x,h1,h2⟩:=D1.trees m xs acc G h;exact h2 G' (hg x h1)
 exact key _ _ _ _ (λts hx=>by
  rcases hx with ⟨own,r,h1,h2,h3⟩|⟨ρ,_,h⟩|⟨r,new,h1,h2⟩
  rotate_left 2
  . exact .inl (h2 m (λ_ _=>rfl) (λ_ _=>rfl) k h1)
  . exact .inr ⟨own,_,h1,h2,λ_ e=>e▸h3⟩
  refine aR ρ ?_;obtain ⟨io,h1,h2⟩:=D1.X' m ρ [] _ h;obtain ⟨args,h3,h4⟩:=D1.Vn ρ _ [] _ h1;obtain ⟨r,io1,hF,hm⟩:=h3
  exact h2 _ (h4 _ ⟨_,hF,λr io' ⟨e,e'⟩=>by subst e;subst e';exact hm⟩)) h
theorem Fk {P:pR}{c:AV}{d:Nat}{xs:lA}{m:Mem}{k:AV->Mem->Prop}(h:pU P c d xs m k):nj P c d xs m k:=by
 cases c with
 |cn f ys=>exact x9 h
 |_=>exact h.elim
theorem x_ {P:pR}{d:Nat}{op:Op}{ts:Env}{m:Mem}{k:AV->Mem->Prop}(h:cA P d op ts m k):iL P d op ts m k:=by
 unfold cA at h;split at h
 . rename_i c;split at h
   . rename_i f hc;have:=x9 h;unfold iL;simp only[hc];exact this
   . rename_i t hc;have:=Fk h;unfold iL;simp only[hc];exact this
   . rename_i x y hc hx;have:=h;unfold iL;simp only[hc,hx];exact this
   exact h
 . obtain ⟨ti,ht,h⟩:=bF h;show ew _ _;rw[ht];exact HY (λh=>N3 h) h
 . obtain ⟨ti,ht,h⟩:=bF h;show ew _ _;rw[ht];exact Lx h
 . obtain ⟨ti,ht,h⟩:=bF h;show ew _ _;rw[ht];exact Hp (H0 h)
 . obtain ⟨tt,htt,h⟩:=bF h;obtain ⟨hks,h⟩:=nn h;obtain ⟨ti,ht,h⟩:=bF h;show ew _ _;rw[htt,wy,hks];show ew _ _;rw[ht];exact N2 h
 exact h
def He (op:Op):lO:=match op with
 | .move _=>[]
 | .assign _=>[]
 | .pick _ _ _=>[]
 | .box _ _=>[]
 | .build _ _=>[]
 | .binOp _ _ _ _ _=>[]
 | .extract _ _=>[]
 | .field _ _ _=>[]
 | .store _ p _=>[p]
 |op=>op.operands.toList
theorem SF {op:Op}{o:Operand}(h:o∈He op):o∈op.operands.toList:=by
 unfold He at h
 split at h<;>first
  |exact h
  |exact absurd h List.not_mem_nil
  |(rw[List.mem_singleton] at h;subst h;simp[Op.operands])
def Reads (op:Op)(ts:Env)(l:Nat):Prop:=∃o,o∈He op/\NL (ev ts o) l
theorem DM.sl {F:Mem->(AV->Mem->Prop)->Prop}{R:nP}{m:Mem}(kd:TK)(h:DM F R m):DM (λm k=>xr kd (F m k)) R m:=by cases kd<;>first|exact h|exact DM.no _ _
theorem DM.st {F:Mem->(AV->Mem->Prop)->Prop}{R:nP}{m:Mem}(kd:TK)(h:DM F R m):DM (λm k=>Wp kd (F m k)) R m:=by cases kd<;>first|exact h|exact DM.no _ _
theorem DM.ti {F:TI->Mem->(AV->Mem->Prop)->Prop}{R:nP}{m:Mem}(o:Option TI)(h:∀ti,DM (F ti) R m):DM (λm k=>ew o λti=>F ti m k) R m:=DM.Fh (D1.ti o) h
theorem DM.WO {R:nP}(d:Nat)(x:AV)(m:Mem):DM (tB d x) R m:=by
 unfold tB;split
 . exact DM.and _ (DM.put d _ λm' h=>by rw[gw h];exact ⟨rfl,rfl⟩)
 exact DM.no _ _
theorem DM.WQ {R:nP}(P:pR)(si ti:TI)(d:Nat)(x:AV)(m:Mem)(h:∀m',j1 R m m'->fR P si ti x m'=fR P si ti x m):DM (kQ P si ti d x) R m:=by
 unfold kQ;split
 . refine DM.ti _ λei=> ?_;unfold xA;split
   . exact DM.WO d x m
   exact DM.no _ _
 exact DM.still (G:=λm k=>fR P si ti x m k) (D1.WJ P si ti m _) λm' hm=>h m' hm
theorem DM.or {α:Type}{F G:Mem->(α->Mem->Prop)->Prop}{R:nP}{m:Mem}(h:DM F R m)(h':DM G R m):DM (λm k=>F m k\/G m k) R m:=λk hk=>by
 rcases hk with hk|hk
 . obtain ⟨x,new,h1,h2⟩:=h k hk;exact ⟨x,new,h1,λm' a b k' hk'=>.inl (h2 m' a b k' hk')⟩
 obtain ⟨x,new,h1,h2⟩:=h' k hk;exact ⟨x,new,h1,λm' a b k' hk'=>.inr (h2 m' a b k' hk')⟩
theorem DM.WR (ti:TI)(d:Nat)(x:AV)(ys:lA)(m:Mem):DM (lF ti d x ys) (NL x) m:=by
 unfold lF;split
 . rename_i l v i n;intro k hk;cases hb:ah m l with
   |none=>simp only[hb] at hk;exact hk.elim
   |some b=>
    simp only[hb] at hk;cases b with
    |row v' sh deep xs=>
     obtain ⟨h1,h2,h3,h4,h5,h6,hk⟩:=hk;refine ⟨.ref l (v+1) 0 (n+ys.length),[(l,.row (v+1) ti.sh false (xs.take n++ys))],hk,λm' hm _ k' hk'=>?_⟩;show oM ti l v i n (ah m' l) ys m' k';rw[(hm l (NL.ref _ _ _ _)).trans hb];exact ⟨h1,h2,h3,h4,h5,h6,hk'⟩
    |_=>exact hk.elim
 exact DM.and _ (DM.and _ (DM.put d _ λm' h=>by rw[gw h];exact ⟨rfl,rfl⟩))
theorem DM.Yc (ti:TI)(d:Nat)(x y:AV)(m:Mem):DM (lG ti d x y) (λl=>NL x l\/NL y l) m:=by
 cases y with
 |ref l v i n=>
  intro k hk;have hk1:jk ti d x l v i n (ah m l) m k:=hk;have go:∀m',j1 (λl'=>NL x l'\/NL (.ref l v i n) l') m m'->ah m' l=ah m l:=λm' hm=>hm l (.inr (NL.ref _ _ _ _));unfold jk at hk1;split at hk1
  . rename_i v' sh' zs hb;obtain ⟨z,new,h1,h2⟩:=DM.or (DM.app ti d x (.ref l v i n) m) (DM.and (v'=v) (DM.and (sh'=ti.sh) (DM.and (i+n<=zs.length) (DM.and (ti.bytes<=65536/\0<ti.size/\fits ti.sh ti.zero) ((DM.WR ti d x ((zs.drop i).take n) m).mono λl hl=>.inl hl))))) k hk1;refine ⟨z,new,h1,λm' a b k' hk'=>?_⟩;show jk ti d x l v i n (ah m' l) m' k';rw[go m' a,hb];exact h2 m' a b k' hk'
  rename_i hb;obtain ⟨z,new,h1,h2⟩:=DM.app ti d x (.ref l v i n) m k hk1;refine ⟨z,new,h1,λm' a b k' hk'=>?_⟩;show jk ti d x l v i n (ah m' l) m' k';rw[go m' a];have:=h2 m' a b k' hk';unfold jk;split
  . rename_i hb2;exact absurd hb2 (hb _ _ _)
  exact this
 |arr sh xs=>
  cases hb:bm xs with
  |true=>
   have e:lG ti d x (.arr sh xs)=vR ti d x (.arr sh xs):=(by funext m k;show rZ ti d x sh xs (bm xs) m k=_;rw[hb];rfl);rw[e];exact DM.app ti d x _ m
  |false=>
   have e:lG ti d x (.arr sh xs)=λm k=>sh=ti.sh/\(ti.bytes<=65536/\0<ti.size/\fits ti.sh ti.zero)/\lF ti d x xs m k:=(by funext m k;show rZ ti d x sh xs (bm xs) m k=_;rw[hb];rfl);rw[e];exact DM.and _ (DM.and _ ((DM.WR ti d x xs m).mono λl hl=>.inl hl))
 |_=>exact DM.app ti d x _ m
theorem DM.WS (P:pR)(tys:List TypeId)(d:Nat)(x y:AV)(m:Mem):DM (kP P tys d x y) (λl=>NL x l\/NL y l) m:=by
 unfold kP;split
 . refine DM.Fh (F:=λtt m k=>xr tt.kind (ew (aL P _) λtt'=>xr tt'.kind (ew (aL P tt.elem) λti=>lG ti d x y m k))) (D1.ti _) λtt=> ?_;have hsl:∀(kd:TK) {F:Mem->(AV->Mem->Prop)->Prop} {R:nP},DM F R m->DM (λm k=>xr kd (F m k)) R m:=by
    intro kd F R h;cases kd<;>first|exact h|exact DM.no _ _
   refine hsl _ (DM.Fh (F:=λtt' m k=>xr tt'.kind (ew (aL P tt.elem) λti=>lG ti d x y m k)) (D1.ti _) λtt'=>?_);exact hsl _ (DM.Fh (F:=λti m k=>lG ti d x y m k) (D1.ti _) λti=>DM.Yc ti d x y m)
 exact DM.no _ _
theorem DM.WT {R:nP}(x:AV)(m:Mem)(hR:∀l,NL x l->R l):DM (mC x) R m:=by
 unfold mC;split
 . rename_i l v i n;intro k hk;cases hb:ah m l with
   |none=>rw[hb] at hk;exact hk.elim
   |some b=>
    rw[hb] at hk;cases b with
    |row v' sh d ys=>
     obtain ⟨h1,h2,h3,h4⟩:=hk;refine ⟨.arr sh ((ys.drop i).take n),[(l,.gone v)],h4,λm' hm _ k' hk'=>?_⟩;show r9 l v i n (ah m' l) m' k';rw[hm l (hR l (NL.ref _ _ _ _)),hb];exact ⟨h1,h2,h3,hk'⟩
    |_=>exact hk.elim
 exact DM.ret _
theorem DM.map {α β:Type}{F:Mem->(α->Mem->Prop)->Prop}{R:nP}{m:Mem}(f:α->β)(h:DM F R m):DM (λm k=>F m λx m'=>k (f x) m') R m:=λk hk=>
 have ⟨x,new,h1,h2⟩:=h _ hk
 ⟨f x,new,h1,λm' hm hm' k' hk'=>h2 m' hm hm' _ hk'⟩
theorem DM.Uc {R:nP}:∀(xs acc:lA) (m:Mem),(∀x,x∈xs->∀l,NL x l->R l)->DM (λm k=>nh k acc m xs) R m
 | [],acc,m,_=>DM.ret acc.reverse
 |x::r,acc,m,hR=>DM.bind (one:=mC x) (rest:=λy m k=>nh k (y::acc) m r) (DM.WT x m (hR x (q13 ..))) λy new=>DM.Uc r (y::acc) (new++m) λx hx=>hR x (q12 _ hx)
theorem DM.Yd {R:nP}(x:AV)(m:Mem)(hR:∀l,NL x l->R l):DM (lH x) R m:=by
 cases x with
 |agg xs=>exact DM.map AV.agg (DM.Uc xs [] m λx hx l ⟨af,hl⟩=>hR l ⟨af,by
   obtain ⟨i,hi,rfl⟩:=q10 hx
   simp only[ao];exact bq hi hl⟩)
 |_=>exact DM.WT _ m hR
theorem DM.WU {R:nP}:∀(ps acc:List (Nat × AV)) (m:Mem),(∀p,p∈ps->∀l,NL p.2 l->R l)->DM (λm k=>qv k acc m ps) R m
 | [],acc,m,_=>DM.ret acc.reverse
 |(i,x)::r,acc,m,hR=>DM.bind (one:=lH x) (rest:=λy m k=>qv k ((i,y)::acc) m r) (DM.Yd x m (hR (i,x) (q13 ..))) λy new=>DM.WU r ((i,y)::acc) (new++m) λp hp=>hR p (q12 _ hp)
theorem DM.Fl {R:nP}(ti:TI)(d n:Nat)(ps:List (Nat × AV))(m:Mem)(hR:∀p,p∈ps->∀l,NL p.2 l->R l):DM (gK ti d n ps) R m:=
 DM.bind (one:=λm k=>qv k [] m ps) (rest:=λps m k=>iw ti d n ps m k) (DM.WU ps [] m hR) λps new=>DM.buildSlice ti d n ps (new++m)
theorem O1 (P:pR)(d:Nat)(op:Op)(ts:Env)(m:Mem):DM (cA P d op ts) (Reads op ts) m:=by
 have rd:∀(o:Operand),o∈He op->∀l,NL (ev ts o) l->Reads op ts l:=λo h l hl=>⟨o,h,hl⟩;have lk:∀(o:Operand),o∈He op->∀m',j1 (Reads op ts) m m'->j1 (NL (ev ts o)) m m':=λo h m' hm l hl=>hm l (rd o h l hl);have nomem:∀{G:(AV->Prop)->Prop},D1 G->DM (λm k=>G λv=>k v m) (Reads op ts) m:=λ{G} h=>DM.still (G:=λ_=>G) h λ_ _=>rfl;have other:(∀t x i,op≠ .indexAddr t x i)->(∀c f,op= .call c->c.callee≠ .value (.func f))->(∀c t,op= .call c->c.callee≠ .value (.tmp t))->(∀o t x y t2,op≠ .binOp o t x y t2)->(∀t x,op≠ .load t x)->(∀t p y,op≠ .store t p y)->(∀c x y,op= .call c->c.callee= .builtin .append->c.args.toList=[x,y]->False)->DM (iL P d op ts) (Reads op ts) m:=by
  intro hni hno hnt hnb hnl hns hna;cases op with
  |move x=>exact DM.ret _
  |makeFunc fn first caps=>cases fn<;>first|exact DM.and _ (DM.ret _)|exact DM.no _ _
  |assign x=>exact DM.ret _
  |pick c a b=>exact nomem (D1.pick _ _ _)
  |alloc t=>exact DM.ti _ λti=>DM.box d ti.zero m
  |box t x=>exact DM.box d _ m
  |build t parts=>exact DM.ti _ λti=>DM.st _ (nomem (D1.build ti _))
  |buildSlice t n parts=>
   refine DM.ti _ λtt=>DM.sl _ (DM.ti _ λti=>DM.Fl ti d n _ m λp hp l hl=>?_);obtain ⟨q,hq,rfl⟩:=q14.1 hp;exact ⟨q.2,by show q.2∈(Op.buildSlice t n parts).operands.toList;simp only[Op.operands];exact q14.2 ⟨q,hq,rfl⟩,hl⟩
  |load t x=>exact absurd rfl (hnl _ _)
  |store t p y=>exact absurd rfl (hns _ _ _)
  |nilCheck x=>exact DM.still (D1.nil m _) λm' hm=>OV (lk x (by simp[He,Op.operands]) m' hm)
  |binOp op t x y t2=>exact absurd rfl (hnb _ _ _ _ _)
  |unOp op t x=>cases op<;>first|exact nomem (D1.not _)|exact nomem (D1.neg _)|exact DM.no _ _
  |convert s t x=>exact DM.ti _ λsi=>DM.ti _ λti=>DM.WQ P si ti d _ m λm' hm=>HX (lk x (by simp[He,Op.operands]) m' hm)
  |makeSlice t l c=>exact DM.ti _ λtt=>DM.sl _ (DM.ti _ λti=>DM.make ti d _ _ m)
  |fieldAddr t x f=>exact DM.ti _ λti=>DM.Fh (F:=λfd m k=>0<fd.2.1/\h_ fd.1 m (ev ts x) λv=>k v m) (D1.X7 _) λfd=>DM.and _ (DM.still (D1.field _ m _) λm' hm=>HV _ (lk x (by simp[He,Op.operands]) m' hm))
  |field t x f=>exact DM.ti _ λti=>DM.Fh (F:=λfd m k=>qQ fd.2.2 fd.2.1 fd.1 (ev ts x) λv=>k v m) (D1.X7 _) λfd=>nomem (D1.WE _ _ _ _)
  |indexAddr t x i=>exact absurd rfl (hni _ _ _)
  |index t x i=>exact DM.ti _ λtt=>DM.and _ (nomem (D1.index _ _))
  |extract x i=>exact nomem (D1.aX _ _)
  |slice t x lo hi mx=>
   cases mx with
   |none=>exact DM.ti _ λtt=>DM.still (G:=λm k=>ni P tt (ev ts x) (lo.map (ev ts)) (hi.map (ev ts)) m k) (D1.Zt _ _ _ _ _ m) λm' hm=>OY _ _ (lk x (by simp[He,Op.operands]) m' hm)
   |some mx=>
    cases lo with
    |none=>exact DM.and _ (DM.ti _ λtt=>DM.sl _ (DM.ti _ λ_=>DM.still (G:=λm k=>jA m (ev ts x) k) (D1.Vl m _) λm' hm=>Fg (lk x (by simp[He,Op.operands]) m' hm)))
    |some lo=>exact DM.no _ _
  |call c=>
   obtain ⟨callee,args,tys⟩:=c;have hin:∀o,o∈args.toList->o∈He (Op.call ⟨callee,args,tys⟩):=λo ho=>by show o∈(Op.call ⟨callee,args,tys⟩).operands.toList;simp only[Op.operands,Call.operands,Array.toList_append,List.mem_append];exact .inr ho
   show DM (λm k=>match callee,args.toList with
    | .builtin .len,[x]=>match tys.toList with|t::_=>ew (aL P t) λti=>m_ ti.kind m (ev ts x) λv=>k v m| []=>False
    | .builtin .max,[x,y]=>wz (ev ts x) (ev ts y) λv=>k v m
    | .builtin .min,[x,y]=>mY (ev ts x) (ev ts y) λv=>k v m
    | .builtin .min,[x,y,z]=>mY (ev ts x) (ev ts y) λu=>mY u (ev ts z) λv=>k v m
    | .builtin .append,[x,y]=>kP P tys.toList d (ev ts x) (ev ts y) m k
    | .value (.func f),xs=>n9 P f d (xs.map (ev ts)) m k
    | .value (.tmp t),xs=>nj P (look ts t) d (xs.map (ev ts)) m k
    |_,_=>False) (Reads (.call ⟨callee,args,tys⟩) ts) m
   generalize hl0:args.toList=l at hin;split
   . rename_i x;split
     . exact DM.ti _ λti=>DM.still (G:=λm k=>m_ ti.kind m (ev ts x) k) (D1.len _ m _) λm' hm=>OW _ (lk x (hin x (by simp)) m' hm)
     exact DM.no _ _
   . exact nomem (D1.max _ _)
   . exact nomem (D1.min _ _)
   . exact nomem (D1.bind (D1.min _ _) λu=>D1.min u _)
   . rename_i x y;exact (hna _ x y rfl rfl hl0).elim
   . exact absurd rfl (hno _ _ rfl)
   . exact absurd rfl (hnt _ _ rfl)
   exact DM.no _ _
  |_=>exact DM.no _ _
 cases op with
 |call c=>
  by_cases hf:∃f,c.callee= .value (.func f)
  . obtain ⟨f,hf⟩:=hf;have:cA P d (.call c) ts=nt P f d (c.args.toList.map (ev ts)):=by
     funext m k;simp only[cA,hf]
    rw[this];refine (DM.Ub P f d _ m).mono λl hl=>?_;obtain ⟨x,hx,hl⟩:=hl;obtain ⟨o,ho,rfl⟩:=q14.1 hx;exact ⟨o,by show o∈(Op.call c).operands.toList;simp only[Op.operands,Call.operands,Array.toList_append,List.mem_append];exact .inr ho,hl⟩
  by_cases hft:∃t,c.callee= .value (.tmp t)
  . obtain ⟨t,hft⟩:=hft;have:cA P d (.call c) ts=pU P (look ts t) d (c.args.toList.map (ev ts)):=by
     funext m k;simp only[cA,hft]
    rw[this];refine (DM.Vo P (look ts t) d _ m).mono λl hl=>?_;rcases hl with ⟨x,hx,hl⟩|hl
    . obtain ⟨o,ho,rfl⟩:=q14.1 hx;exact ⟨o,by show o∈(Op.call c).operands.toList;simp only[Op.operands,Call.operands,Array.toList_append,List.mem_append];exact .inr ho,hl⟩
    exact ⟨.tmp t,by show Operand.tmp t∈(Op.call c).operands.toList;simp[Op.operands,Call.operands,hft],hl⟩
  by_cases hfa:∃x y,c.callee= .builtin .append/\c.args.toList=[x,y]
  . obtain ⟨x,y,hc,hx⟩:=hfa;have:cA P d (.call c) ts=kP P c.argTypes.toList d (ev ts x) (ev ts y):=by
     funext m k;simp only[cA,hc,hx]
    rw[this];have hin:∀o,o∈c.args.toList->o∈He (Op.call c):=λo ho=>by show o∈(Op.call c).operands.toList;simp only[Op.operands,Call.operands,Array.toList_append,List.mem_append];exact .inr ho
    exact (DM.WS P _ d _ _ m).mono λl hl=>hl.elim (λhl=>⟨x,hin x (by rw[hx];simp),hl⟩) λhl=>⟨y,hin y (by rw[hx];simp),hl⟩
  have:cA P d (.call c) ts=iL P d (.call c) ts:=by
   funext m k;simp only[cA];split
   . rename_i f hc;exact absurd ⟨f,hc⟩ hf
   . rename_i f hc;exact absurd ⟨f,hc⟩ hft
   . rename_i x y hc hx;exact absurd ⟨x,y,hc,hx⟩ hfa
   rfl
  rw[this];exact other (λ_ _ _ e=>(by cases e)) (λc' f e hc=>hf ⟨f,by injection e with e;rw[e];exact hc⟩) (λc' f e hc=>hft ⟨f,by injection e with e;rw[e];exact hc⟩) (λ_ _ _ _ _ e=>(by cases e)) (λ_ _ e=>(by cases e)) (λ_ _ _ e=>(by cases e)) (λc' x y e hc hx=>hfa ⟨x,y,by injection e with e;rw[e];exact hc,by injection e with e;rw[e];exact hx⟩)
 |binOp op t x y t2=>exact DM.ti _ λti=>nomem (G:=λk=>gq P t op (ev ts x) (ev ts y) k (kL op ti.kind (ev ts x) (ev ts y) k)) (D1.Yb P t op ti.kind (ev ts x) (ev ts y))
 |load t x=>exact DM.ti _ λti=>(DM.load ti.agg ti.size (ev ts x) m).mono (rd x (by simp[He,Op.operands]))
 |store t p y=>exact DM.ti _ λti=>(DM.store ti.size (ev ts p) (ev ts y) m).mono (rd p (by simp[He]))
 |indexAddr t x i=>exact DM.ti _ λtt=>DM.sl _ (DM.ti _ λti=>DM.still (G:=λm k=>oS ti.sh m (ev ts x) (ev ts i) k) (D1.idx _ m _ _) λm' hm=>OX _ _ (lk x (by simp[He,Op.operands]) m' hm))
 |_=>exact other (λ_ _ _ e=>(by cases e)) (λ_ _ e=>(by cases e)) (λ_ _ e=>(by cases e)) (λ_ _ _ _ _ e=>(by cases e)) (λ_ _ e=>(by cases e)) (λ_ _ _ e=>(by cases e)) (λ_ _ _ e=>(by cases e))
theorem SG {P:pR}{d:Nat}{op:Op}{ts ts':Env}(h:∀o,o∈op.operands.toList->ev ts' o=ev ts o)(m:Mem)(k:AV->Mem->Prop):cA P d op ts' m k=cA P d op ts m k:=by
 have parts:∀(ps:Array (Nat × Operand)),(∀o,o∈(ps.toList.map (·.2))->ev ts' o=ev ts o)->(ps.toList.map λp=>(p.1,ev ts' p.2))=ps.toList.map λp=>(p.1,ev ts p.2):=by intro ps hp;refine List.map_congr_left λp hpp=>?_;rw[hp p.2 (q14.2 ⟨p,hpp,rfl⟩)]
 have optm:∀(lo:Option Operand),(∀o,o∈lo.toList->ev ts' o=ev ts o)->lo.map (ev ts')=lo.map (ev ts):=by
  intro lo hp;cases lo with
  |none=>rfl
  |some o=>simp[hp o (by simp)]
 cases op with
 |call c=>
  obtain ⟨callee,args,tys⟩:=c;have hin:∀o,o∈args.toList->ev ts' o=ev ts o:=λo ho=>h o (by simp only[Op.operands,Call.operands,Array.toList_append,List.mem_append];exact .inr ho);have hcl:∀t,callee= .value (.tmp t)->look ts' t=look ts t:=λt e=>h (.tmp t) (by subst e;simp[Op.operands,Call.operands]);simp only[cA,iL];generalize args.toList=l at hin;split
  . rename_i f xs;rw[List.map_congr_left hin]
  . rw[List.map_congr_left hin,hcl _ rfl]
  . simp only[hin _ (q13 ..),hin _ (q12 _ (q13 ..))]
  split<;>first
   |rfl
   |(rename_i hx _;exact (hx _ rfl).elim)
   |(rename_i hx _ _;exact (hx _ rfl).elim)
   |simp only[hin _ (q13 ..),hin _ (q12 _ (q13 ..)),hin _ (q12 _ (q12 _ (q13 ..)))]
   |simp only[hin _ (q13 ..),hin _ (q12 _ (q13 ..))]
   |simp only[hin _ (q13 ..)]
 |makeFunc fn first caps=>
  cases fn<;>first
   |rfl
   |(simp only[cA,iL];rw[List.map_congr_left (λo ho=>h o (by simp[Op.operands];exact .inr (by simpa using ho)))])
 |build t ps=>simp only[cA,iL];rw[parts ps λo ho=>h o (by simpa [Op.operands] using ho)]
 |buildSlice t n ps=>simp only[cA,iL];rw[parts ps λo ho=>h o (by simpa [Op.operands] using ho)]
 |slice t x lo hi mx=>
  cases mx with
  |none=>simp only[cA,iL];rw[h x (by simp[Op.operands]),optm lo λo ho=>h o (by simp only[Op.operands];simp at ho ⊢;simp[ho]),optm hi λo ho=>h o (by simp only[Op.operands];simp at ho ⊢;simp[ho])]
  |some mx=>
   cases lo with
   |none=>simp only[cA,iL];rw[h x (by simp[Op.operands])]
   |some lo=>rfl
 |unOp op t x=>cases op<;>simp only[cA,iL]<;>rw[h x (by simp[Op.operands])]
 |pick c x y=>simp only[cA,iL];rw[h c (by simp[Op.operands]),h x (by simp[Op.operands]),h y (by simp[Op.operands])]
 |store t x y=>simp only[cA];rw[h x (by simp[Op.operands]),h y (by simp[Op.operands])]
 |binOp op t x y t2=>simp only[cA];rw[h x (by simp[Op.operands]),h y (by simp[Op.operands])]
 |makeSlice t x y=>simp only[cA,iL];rw[h x (by simp[Op.operands]),h y (by simp[Op.operands])]
 |indexAddr t x y=>simp only[cA];rw[h x (by simp[Op.operands]),h y (by simp[Op.operands])]
 |index t x y=>simp only[cA,iL];rw[h x (by simp[Op.operands]),h y (by simp[Op.operands])]
 |move x=>simp only[cA,iL];rw[h x (by simp[Op.operands])]
 |assign x=>simp only[cA,iL];rw[h x (by simp[Op.operands])]
 |box t x=>simp only[cA,iL];rw[h x (by simp[Op.operands])]
 |load t x=>simp only[cA];rw[h x (by simp[Op.operands])]
 |nilCheck x=>simp only[cA,iL];rw[h x (by simp[Op.operands])]
 |convert s t x=>simp only[cA,iL];rw[h x (by simp[Op.operands])]
 |fieldAddr t x f=>simp only[cA,iL];rw[h x (by simp[Op.operands])]
 |field t x f=>simp only[cA,iL];rw[h x (by simp[Op.operands])]
 |extract x i=>simp only[cA,iL];rw[h x (by simp[Op.operands])]
 |_=>rfl
structure Rec where
 x:AV
 new:Mem
def cJ (ops:List Oper)(o:Oper)(ts:Env):Option Bool:=match o.guard with
 |none=>some true
 |some (j,w)=>match look ts (jL ops j) with
  | .val (.bool c)=>some (c==w)
  | .aX []=>some false
  |_=>none
def tR (ops:List Oper)(o:Oper):lN:=(o.op.operands.toList.filterMap fun| .tmp t=>some t|_=>none)++(match o.guard with|some (j,_)=>[jL ops j]|none=>[])
def vX (op:Op)(ts:Env):lN:=(He op).flatMap λo=>(ao (ev ts o)).map (·.1)
def YA (P:pR)(ops:List Oper)(o:Oper)(q:Rec)(rd:lN)(ts:Env)(m:Mem):Prop:=
 (cJ ops o ts=some true/\(∀l,l∈vX o.op ts->l∈rd)/\∀m',(∀l,l∈vX o.op ts->ah m' l=ah m l)->(∀l,l∈q.new.map (·.1)->ah m' l=ah m l)->∀k,k q.x (q.new++m')->cA P (o.dst.getD 0) o.op ts m' k)∨
 (cJ ops o ts=some false/\q.x= .aX []/\q.new=[])
theorem H2 {ts ts':Env}{o:Operand}(h:∀t,o= .tmp t->look ts' t=look ts t):ev ts' o=ev ts o:=by
 cases o with
 |tmp t=>exact h t rfl
 |_=>rfl
theorem Ly {ops:List Oper}{o:Oper}{ts ts':Env}(h:∀t,t∈tR ops o->look ts' t=look ts t):∀x,x∈o.op.operands.toList->ev ts' x=ev ts x:=λx hx=>
 H2 λt ht=>h t (by
  subst ht;unfold tR
  exact List.mem_append_left _ (List.mem_filterMap.2 ⟨_,hx,rfl⟩))
theorem vn {ops:List Oper}{o:Oper}{ts ts':Env}(h:∀t,t∈tR ops o->look ts' t=look ts t):cJ ops o ts'=cJ ops o ts:=by
 unfold cJ;split
 . rfl
 rename_i j w hg;rw[h (jL ops j) (by unfold tR;rw[hg];exact List.mem_append_right _ (List.mem_singleton.2 rfl))]
theorem YA.local {P:pR}{ops:List Oper}{o:Oper}{q:Rec}{rd:lN}{ts ts':Env}{m m':Mem}(h:YA P ops o q rd ts m)(ht:∀t,t∈tR ops o->look ts' t=look ts t)
 (hr:∀l,l∈rd->ah m' l=ah m l) (hn:∀l,l∈q.new.map (·.1)->ah m' l=ah m l):YA P ops o q rd ts' m':=by
 have hev:=Ly ht;have hrd:vX o.op ts'=vX o.op ts:=by unfold vX;rw[List.flatMap_def,List.flatMap_def,List.map_congr_left λx hx=>by rw[hev x (SF hx)]]
 rcases h with ⟨h1,h2,h3⟩|⟨h1,h2,h3⟩
 . refine .inl ⟨(vn ht).trans h1,λl hl=>h2 l (hrd▸hl),λm'' hm hm' k hk=>?_⟩;rw[SG hev];exact h3 m'' (λl hl=>(hm l (hrd▸hl)).trans (hr l (h2 l hl))) (λl hl=>(hm' l hl).trans (hn l hl)) k hk
 exact .inr ⟨(vn ht).trans h1,h2,h3⟩
def dy (os:Nat->Oper)(qs:Nat->Rec)(D:Nat->Bool)(ts:Env)(m:Mem):Nat->Env × Mem
 |0=>(ts,m)
 |i+1=>if D i then (mE (os i).dst (qs i).x (dy os qs D ts m i).1,(qs i).new++(dy os qs D ts m i).2) else dy os qs D ts m i
section
variable {os:Nat->Oper} {qs:Nat->Rec} {D D':Nat->Bool} {ts:Env} {m:Mem}
theorem pV (d:Option Nat)(x:AV)(ts:Env)(t:Nat):look (mE d x ts) t=if d=some t then x else look ts t:=by
 cases d with
 |none=>simp[mE]
 |some d=>simp[mE,cN]
theorem kC {new m:Mem}{l:Nat}(h:l∉new.map (·.1)):ah (new++m) l=ah m l:=by
 induction new with
 |nil=>rfl
 |cons p r ih=>
  obtain ⟨k,v⟩:=p;simp only[List.map_cons,q11,not_or] at h;rw[List.cons_append,aw,if_neg (λe=>h.1 e.symm),ih h.2]
theorem sE {new m m':Mem}{l:Nat}(h:l∈new.map (·.1)):ah (new++m) l=ah (new++m') l:=by
 induction new with
 |nil=>cases h
 |cons p r ih=>
  obtain ⟨k,v⟩:=p;simp only[List.cons_append,aw];by_cases e:k=l
  . simp[e]
  simp only[if_neg e];exact ih (by simp only[List.map_cons,q11] at h;exact h.resolve_left λhh=>e hh.symm)
theorem yb {t:Nat}:∀(hi:Nat) (lo:Nat),lo<=hi->(∀i,lo<=i->i<hi->D i≠D' i->(os i).dst≠some t)->look (dy os qs D ts m lo).1 t=look (dy os qs D' ts m lo).1 t→
 look (dy os qs D ts m hi).1 t=look (dy os qs D' ts m hi).1 t
 |0,lo,hl,_,h=>by rw[show lo=0 by omega] at h;exact h
 |hi+1,lo,hl,hd,h=>by
  by_cases e:lo=hi+1
  . subst e;exact h
  have ih:=yb hi lo (by omega) (λi h1 h2=>hd i h1 (by omega)) h;have hne:=hd hi (by omega) (by omega);simp only[dy];cases h1:D hi<;>cases h2:D' hi<;>simp only[q3,if_true,if_false]<;>(try simp only[pV])
  . exact ih
  . rw[if_neg (hne (by simp[h1,h2]))];exact ih
  . rw[if_neg (hne (by simp[h1,h2]))];exact ih
  rw[ih]
theorem pW {l:Nat}:∀(hi:Nat) (lo:Nat),lo<=hi->(∀i,lo<=i->i<hi->D i≠D' i->l∉(qs i).new.map (·.1))->ah (dy os qs D ts m lo).2 l=ah (dy os qs D' ts m lo).2 l→
 ah (dy os qs D ts m hi).2 l=ah (dy os qs D' ts m hi).2 l
 |0,lo,hl,_,h=>by rw[show lo=0 by omega] at h;exact h
 |hi+1,lo,hl,hd,h=>by
  by_cases e:lo=hi+1
  . subst e;exact h
  have ih:=pW hi lo (by omega) (λi h1 h2=>hd i h1 (by omega)) h;have hne:=hd hi (by omega) (by omega);simp only[dy];cases h1:D hi<;>cases h2:D' hi<;>simp only[q3,if_true,if_false]
  . exact ih
  . rw[kC (hne (by simp[h1,h2]))];exact ih
  . rw[kC (hne (by simp[h1,h2]))];exact ih
  by_cases hl:l∈(qs hi).new.map (·.1)
  . exact sE hl
  rw[kC hl,kC hl];exact ih
theorem kU {j:Nat}:∀(i:Nat),i<=j->(∀q,q<j->D q=D' q)->dy os qs D ts m i=dy os qs D' ts m i
 |0,_,_=>rfl
 |i+1,hi,h=>by simp only[dy];rw[kU i (by omega) h,h i (by omega)]
theorem mL {j:Nat}(h:∀q,j<=q->D q=false):∀(i:Nat),j<=i->dy os qs D ts m i=dy os qs D ts m j
 |0,hi=>by rw[show j=0 by omega]
 |i+1,hi=>by
  by_cases e:j=i+1
  . rw[e]
  simp only[dy];rw[h i (by omega)];simpa using mL h i (by omega)
end
def ins (a xs:lN):lN:=xs.foldl (λa x=>if a.contains x then a else x::a) a
theorem J3 {x:Nat}:∀(xs a:lN),x∈ins a xs->x∈a\/x∈xs
 | [],a,h=>.inl h
 |y::r,a,h=>by
  simp only[ins,List.foldl_cons] at h;rcases J3 r _ h with h|h
  . split at h
    . exact .inl h
    rcases q11.1 h with rfl|h
    . exact .inr (q13 ..)
    exact .inl h
  exact .inr (q12 _ h)
def iz (o:Oper):lN:=(o.after.toList.filter (Region.binds .any)).map (·.on)
def Ud (acc:List lN)(o:Oper):lN:=(iz o).foldl (λa i=>ins a (i::acc.getD i [])) []
theorem BH {x:Nat}{acc:List lN}:∀(ps a:lN),x∈ps.foldl (λa i=>ins a (i::acc.getD i [])) a->x∈a\/∃i,i∈ps/\(x=i\/x∈acc.getD i [])
 | [],a,h=>.inl h
 |p::r,a,h=>by
  rw[List.foldl_cons] at h;rcases BH r _ h with h|⟨i,hi,h⟩
  . rcases J3 _ _ h with h|h
    . exact .inl h
    exact .inr ⟨p,q13 ..,q11.1 h⟩
  exact .inr ⟨i,q12 _ hi,h⟩
def yd:List Oper->List lN->List lN
 | [],acc=>acc
 |o::r,acc=>yd r (acc++[Ud acc o])
def ig (ops:List Oper)(D:Nat->Bool):Prop:=∀j o,ops[j]? =some o->D j=true->∀i,i∈iz o->D i=true
theorem jD {ops:List Oper}{D:Nat->Bool}(hD:ig ops D):∀(l:List Oper) (acc:List lN),ops.drop acc.length=l->(∀j x,x∈acc.getD j []->D j=true->D x=true)→
 ∀j x,x∈(yd l acc).getD j []->D j=true->D x=true
 | [],acc,_,h=>h
 |o::r,acc,hl,h=>by
  have hoi:ops[acc.length]? =some o:=by have:=congrArg (·[0]?) hl;simpa using this
  refine jD hD r (acc++[Ud acc o]) ?_ ?_
  . have:=congrArg List.tail hl;simpa using this
  intro j x hx hj;by_cases e:j<acc.length
  . refine h j x ?_ hj
    rwa [q6,List.getElem?_append_left e,←q6] at hx
  by_cases e2:j=acc.length
  . subst e2;rw [q6,List.getElem?_append_right (q17 _)] at hx;simp only [Nat.sub_self,List.getElem?_cons_zero,Option.getD_some] at hx;rcases BH _ _ hx with hx|⟨i,hi,hx⟩
    . cases hx
    have h1:=hD _ o hoi hj i hi;rcases hx with rfl|hx
    . exact h1
    exact h i x hx h1
  rw[q6,q8 (by simp;omega)] at hx;cases hx
def H3 (ops:List Oper)(oi oj:Oper)(ti tj:lN × lN):Bool:=
 (match oi.dst with|some d=> !(tR ops oj).contains d&&oj.dst != some d|none=>true)&&(match oj.dst with|some d=> !(tR ops oi).contains d|none=>true)&&
 ti.2.all (λl=> !tj.1.contains l&& !tj.2.contains l)&&tj.2.all (λl=> !ti.1.contains l)
def vo (ops:List Oper):Bool:=(List.range ops.length).all λi=>match ops[i]? with|some o=>(iz o).all λp=>decide (p<i)|none=>true
def mM (ops:List Oper)(tr:List (lN × lN)):Bool:=
 vo ops&&(List.range ops.length).all λj=>(List.range j).all λi=>((yd ops []).getD j []).contains i||
  match ops[i]?,ops[j]?,tr[i]?,tr[j]? with
  |some oi,some oj,some ti,some tj=>H3 ops oi oj ti tj
  |_,_,_,_=>false
structure CX (ops:List Oper) (oi oj:Oper) (ri rj wi wj:lN):Prop where
 t1:∀d,oi.dst=some d->d∉tR ops oj
 t2:∀d,oj.dst=some d->d∉tR ops oi
 t3:∀d,oi.dst=some d->oj.dst≠some d
 l1:∀l,l∈wi->l∉rj
 l2:∀l,l∈wj->l∉ri
 l3:∀l,l∈wi->l∉wj
theorem H4 {ops:List Oper}{oi oj:Oper}{ti tj:lN × lN}(h:H3 ops oi oj ti tj=true):CX ops oi oj ti.1 tj.1 ti.2 tj.2:=by
 simp only[H3,Bool.and_eq_true,q4,Bool.not_eq_true',List.contains_eq_mem,decide_eq_false_iff_not] at h;obtain ⟨⟨⟨h1,h2⟩,h3⟩,h4⟩:=h;refine ⟨λd hd=>?_,λd hd=>?_,λd hd=>?_,λl hl=>(h3 l hl).1,λl hl=>h4 l hl,λl hl=>(h3 l hl).2⟩
 . rw[hd] at h1;simp at h1;exact h1.1
 . rw[hd] at h2;simp at h2;exact h2
 rw[hd] at h1;simp at h1;exact h1.2
theorem BJ {ops:List Oper}{tr:List (lN × lN)}(h:mM ops tr=true){D:Nat->Bool}(hD:ig ops D){i j:Nat}(hij:i<j){oi oj:Oper}{ti tj:lN × lN}
 (hi:ops[i]? =some oi) (hj:ops[j]? =some oj) (h1:tr[i]? =some ti) (h2:tr[j]? =some tj) (hd:¬(D j=true->D i=true)):CX ops oi oj ti.1 tj.1 ti.2 tj.2:=by
 have hjl:j<ops.length:=(q9.1 hj).1;simp only[mM,Bool.and_eq_true,q4,List.mem_range,Bool.or_eq_true,List.contains_eq_mem,decide_eq_true_eq] at h;rcases h.2 j hjl i hij with hh|hh
 . exact absurd (jD hD ops [] rfl (λj x hx=>by simp at hx) j i hh) hd
 rw[hi,hj,h1,h2] at hh;exact H4 hh
section
variable {P:pR} {B:eC} {N:Nat} {φ:Nat->LS} {fp:nN} {S:nP} {ts:Env} {m:Mem} {a:Act} {w:World}
theorem RS.ext (h:RS B N φ fp S ts m a w){ts':Env}{m':Mem}(ht:∀t,look ts' t=look ts t)(hm:∀l,ah m' l=ah m l):RS B N φ fp S ts' m' a w:=by
 have hk:∀l af,known m l af->known m' l af:=λl af ⟨k,h1,h2⟩=>⟨k,(hm l).trans h1,h2⟩
 exact {h with
  kn:=λl af hl hk=>by obtain ⟨k,h1,h2⟩:=h.kn l af hl hk;exact ⟨k,(hm l).trans h1,h2⟩
  tm:=λt=>by rw[ht t];exact h.tm t
  tl:=λt l af hl=>hk l af (h.tl t l af (by rw[←ht t];exact hl))
  ca:=λl hl=>h.ca l ((hm l).symm.trans hl)
  aG:=λl k hl=>h.aG l k ((hm l).symm.trans hl)
  bl:=λl v xs hl l' af hlv=>hk l' af (h.bl l v xs ((hm l).symm.trans hl) l' af hlv)}
variable {os:Nat->Oper} {qs:Nat->Rec} {D D':Nat->Bool} {ops:List Oper} {tr:List (lN × lN)}
theorem Fm {lo:Nat}{t:Nat}:∀(hi:Nat),lo<=hi->(∀i,lo<=i->i<hi->D i=true->(os i).dst≠some t)->look (dy os qs D ts m hi).1 t=look (dy os qs D ts m lo).1 t
 |0,hl,_=>by rw[show lo=0 by omega]
 |hi+1,hl,h=>by
  by_cases e:lo=hi+1
  . rw[e]
  have ih:=Fm hi (by omega) λi h1 h2=>h i h1 (by omega);simp only[dy];cases hd:D hi with
  |false=>simpa using ih
  |true=>
   simp only[if_true,pV];rw[if_neg (h hi (by omega) (by omega) hd)];exact ih
theorem BK {lo:Nat}{l:Nat}:∀(hi:Nat),lo<=hi->(∀i,lo<=i->i<hi->D i=true->l∉(qs i).new.map (·.1))->ah (dy os qs D ts m hi).2 l=ah (dy os qs D ts m lo).2 l
 |0,hl,_=>by rw[show lo=0 by omega]
 |hi+1,hl,h=>by
  by_cases e:lo=hi+1
  . rw[e]
  have ih:=BK hi (by omega) λi h1 h2=>h i h1 (by omega);simp only[dy];cases hd:D hi with
  |false=>simpa using ih
  |true=>
   simp only[if_true];rw[kC (h hi (by omega) (by omega) hd)];exact ih
structure SH (P:Program) (sk:Nat) (ops:List Oper) (os:Nat->Oper) (qs:Nat->Rec) (tr:List (lN × lN)) (ts:Env) (m:Mem):Prop where
 oe:∀i o,sk<=i->ops[i]? =some o->os i=o
 ya:∀i o,sk<=i->ops[i]? =some o->∃t,tr[i]? =some t/\YA P ops o (qs i) t.1 (dy os qs (λ_=>true) ts m i).1 (dy os qs (λ_=>true) ts m i).2/\∀l,l∈(qs i).new.map (·.1)->l∈t.2
def iT (D:Nat->Bool)(j:Nat):Nat->Bool:=λi=>D i||i==j
theorem ig.add {j:Nat}{o:Oper}(h:ig ops D)(ho:ops[j]? =some o)(hp:∀i,i∈iz o->D i=true):ig ops (iT D j):=by
 intro k o' hk hd i hi;simp only[iT,Bool.or_eq_true,beq_iff_eq] at hd ⊢;rcases hd with hd|rfl
 . exact .inl (h k o' hk hd i hi)
 rw[ho] at hk;injection hk with hk;subst hk;exact .inl (hp i hi)
theorem SH.Vp {sk:Nat}(hR:SH P sk ops os qs tr ts m)(hB:mM ops tr=true)(hD:ig ops D)(hn:∀i,D i=true->i<ops.length)(hsk:∀i,i<sk->D i=true){j:Nat}{o:Oper}(ho:ops[j]? =some o)(hj:D j=false)
 (hp:∀i,i∈iz o->D i=true):
 (∃rd,YA P ops o (qs j) rd (dy os qs D ts m ops.length).1 (dy os qs D ts m ops.length).2)∧
 (∀t,look (dy os qs (iT D j) ts m ops.length).1 t=look (mE o.dst (qs j).x (dy os qs D ts m ops.length).1) t)∧
 (∀l,ah (dy os qs (iT D j) ts m ops.length).2 l=ah ((qs j).new++(dy os qs D ts m ops.length).2) l):=by
 have hjn:j<ops.length:=(q9.1 ho).1;have XH:sk<=j:=by
  rcases Nat.lt_or_ge j sk with h|h
  . rw[hsk j h] at hj;cases hj
  exact h
 obtain ⟨t,ht,hya,iq⟩:=hR.ya j o XH ho;have hoj:=hR.oe j o XH ho;have Nq:∀i,sk<=i->i<ops.length->∃(oi:Oper) (ti:lN × lN),ops[i]? =some oi/\os i=oi/\tr[i]? =some ti/\∀l,l∈(qs i).new.map (·.1)->l∈ti.2:=by intro i hsi hi;have h1:ops[i]? =some ops[i]:=q7 hi;obtain ⟨ti,h2,_,h3⟩:=hR.ya i _ hsi h1;exact ⟨_,ti,h1,hR.oe i _ hsi h1,h2,h3⟩
 have early:∀i,i<j->D i=false->∃(oi:Oper) (ti:lN × lN),os i=oi/\(∀l,l∈(qs i).new.map (·.1)->l∈ti.2)/\CX ops oi o ti.1 t.1 ti.2 t.2:=by
  intro i hi hdi;have hsi:sk<=i:=by
   rcases Nat.lt_or_ge i sk with h|h
   . rw[hsk i h] at hdi;cases hdi
   exact h
  obtain ⟨oi,ti,h1,h2,h3,h4⟩:=Nq i hsi (by omega);refine ⟨oi,ti,h2,h4,BJ hB (hD.add ho hp) hi h1 ho h3 ht λhh=>?_⟩;have:=hh (by simp[iT]);simp only[iT,hdi,Bool.false_or,beq_iff_eq] at this;omega
 have late:∀i,j<i->D i=true->∃(oi:Oper) (ti:lN × lN),os i=oi/\(∀l,l∈(qs i).new.map (·.1)->l∈ti.2)/\CX ops o oi t.1 ti.1 t.2 ti.2:=by intro i hi hdi;obtain ⟨oi,ti,h1,h2,h3,h4⟩:=Nq i (by omega) (hn i hdi);refine ⟨oi,ti,h2,h4,BJ hB hD hi ho h1 ht h3 λhh=>?_⟩;have:=hh hdi;rw[hj] at this;cases this
 have dD:dy os qs (λ_=>true) ts m j=dy os qs (λi=>decide (i<j)) ts m ops.length:=by rw[mL (j:=j) (λq hq=>by simp;omega) ops.length (by omega)];exact kU j (q17 _) λq hq=>by simp[hq]
 rw[dD] at hya;refine ⟨⟨t.1,hya.local (λu hu=>?_) (λl hl=>?_) (λl hl=>?_)⟩,λu=>?_,λl=>?_⟩
 . refine yb ops.length 0 (Nat.zero_le _) (λi _ hi hne=> ?_) rfl;rcases Nat.lt_trichotomy i j with h|h|h
   . simp only[h,decide_true] at hne;obtain ⟨oi,ti,h1,h2,h3⟩:=early i h (by simpa using hne);rw[h1];exact λhd=>h3.t1 _ hd hu
   . subst h;simp[hj] at hne
   have:decide (i<j)=false:=(by simp;omega);rw[this] at hne;obtain ⟨oi,ti,h1,h2,h3⟩:=late i h (by simpa using hne);rw[h1];exact λhd=>h3.t2 _ hd hu
 . refine pW ops.length 0 (Nat.zero_le _) (λi _ hi hne=> ?_) rfl;rcases Nat.lt_trichotomy i j with h|h|h
   . simp only[h,decide_true] at hne;obtain ⟨oi,ti,h1,h2,h3⟩:=early i h (by simpa using hne);exact λhd=>h3.l1 _ (h2 l hd) hl
   . subst h;simp[hj] at hne
   have:decide (i<j)=false:=(by simp;omega);rw[this] at hne;obtain ⟨oi,ti,h1,h2,h3⟩:=late i h (by simpa using hne);exact λhd=>h3.l2 _ (h2 l hd) hl
 . refine pW ops.length 0 (Nat.zero_le _) (λi _ hi hne=> ?_) rfl;rcases Nat.lt_trichotomy i j with h|h|h
   . simp only[h,decide_true] at hne;obtain ⟨oi,ti,h1,h2,h3⟩:=early i h (by simpa using hne);exact λhd=>h3.l3 _ (h2 l hd) (iq l hl)
   . subst h;simp[hj] at hne
   have:decide (i<j)=false:=(by simp;omega);rw[this] at hne;obtain ⟨oi,ti,h1,h2,h3⟩:=late i h (by simpa using hne);exact λhd=>h3.l3 _ (iq l hl) (h2 l hd)
 . rw [pV];by_cases hd:o.dst=some u
   . rw [if_pos hd]
     rw [Fm (lo:=j+1) ops.length hjn λi h1 h2 h3=>by
      have hdi:D i=true:=by simp only[iT,Bool.or_eq_true,beq_iff_eq] at h3;exact h3.resolve_right (by omega)
      obtain ⟨oi,ti,g1,_,g3⟩:=late i h1 hdi;rw[g1]
      exact g3.t3 u hd]
     simp only[dy,iT,beq_self_eq_true,Bool.or_true,if_true,pV,hoj,hd]
   rw [if_neg hd];refine yb ops.length 0 (Nat.zero_le _) (λi _ hi hne=> ?_) rfl;have:i=j:=by
    by_cases e:i=j
    . exact e
    have:(i==j)=false:=(by simpa using e);simp[iT,this] at hne
   subst this;rw[hoj];exact hd
 by_cases hd:l∈(qs j).new.map (·.1)
 . rw [BK (lo:=j+1) ops.length hjn λi h1 h2 h3=>by
    have hdi:D i=true:=by simp only[iT,Bool.or_eq_true,beq_iff_eq] at h3;exact h3.resolve_right (by omega)
    obtain ⟨oi,ti,g1,g2,g3⟩:=late i h1 hdi
    exact λhl=>g3.l3 l (iq l hd) (g2 l hl)]
   simp only[dy,iT,beq_self_eq_true,Bool.or_true,if_true];exact sE hd
 rw [kC hd];refine pW ops.length 0 (Nat.zero_le _) (λi _ hi hne=> ?_) rfl;have:i=j:=by
  by_cases e:i=j
  . exact e
  have:(i==j)=false:=by simpa using e
  simp[iT,this] at hne
 subst this;exact hd
theorem cr (h:RS B N φ fp S ts m a w)(hgs:df N ops=true){j:Nat}{o:Oper}(ho:ops[j]? =some o){b:Bool}(hw:cJ ops o ts=some b):Region.wanted o (yielded ops.toArray a.tmps)=b:=by
 unfold cJ at hw;unfold Region.wanted;split at hw
 . rename_i hg;rw[hg];injection hw
 rename_i i v hg;rw[hg];split at hw
 . rename_i c hl;have hgo:=q4.1 hgs o (List.mem_of_getElem? ho);rw [hg] at hgo;have hj:∃d,((ops[i]?).bind (·.dst))=some d/\d<N:=by
    simp only at hgo;split at hgo
    . rename_i d hd;exact ⟨d,hd,by simpa using hgo⟩
    cases hgo
   have hy:=EY h hl hj;simp only[hy];injection hw
 . rename_i hl;have hgo:=q4.1 hgs o (List.mem_of_getElem? ho);rw [hg] at hgo;have hj:∃d,((ops[i]?).bind (·.dst))=some d/\d<N:=by
    simp only at hgo;split at hgo
    . rename_i d hd;exact ⟨d,hd,by simpa using hgo⟩
    cases hgo
   have hy:=xH h hl hj;simp only[hy];injection hw with hw
 cases hw
theorem pX {f g:Nat->Bool}:∀(l:lN) (j:Nat),j∈l->f j=true->g j=false->(∀i,g i=true->f i=true)->l.countP g<l.countP f
 |x::r,j,hj,hf,hg,h=>by
  have hle:∀l:lN,l.countP g<=l.countP f:=λl=>List.countP_mono_left λi _ hi=>h i hi;rw[List.countP_cons,List.countP_cons];rcases q11.1 hj with rfl|hj
  . have:=hle r;simp[hf,hg];omega
  have:=pX r j hj hf hg h;have h1:=h x;cases hgx:g x<;>cases hfx:f x<;>simp_all<;>(try omega)
def CY (n:Nat)(listed:Array Bool):Nat:=(List.range n).countP λi=> !listed.getD i false
theorem BL {sk:Nat}{ts0:Env}{m0:Mem}(hR:SH P sk ops os qs tr ts0 m0)(hB:mM ops tr=true)(hok:jM N ops=true)(hgs:df N ops=true){Q:Exit->Act->World->Prop}{K:St}
 (hK:K (dy os qs (λ_=>true) ts0 m0 ops.length).1 (dy os qs (λ_=>true) ts0 m0 ops.length).2) (hQ:∀a w,ia B N K a w->Q .normal a w):
 ∀(fuel:Nat) (listed:Array Bool) (φ:Nat->LS) (fp:nN) (S:nP) (a:Act) (w:World),listed.size=ops.length->ig ops (λi=>listed.getD i false)->(∀i,i<sk->listed.getD i false=true)->CY ops.length listed<=fuel→
  RS B N φ fp S (dy os qs (λi=>listed.getD i false) ts0 m0 ops.length).1 (dy os qs (λi=>listed.getD i false) ts0 m0 ops.length).2 a w->wpAny P .any ops.toArray Q fuel listed a w:=by
 have qL:∀i o,ops[i]? =some o->∀p,p∈iz o->p<i:=by intro i o ho p hp;simp only[mM,vo,Bool.and_eq_true,q4,List.mem_range] at hB;have:=hB.1 i (q9.1 ho).1;rw[ho] at this;simpa using q4.1 this p hp
 have cP:∀(listed:Array Bool),listed.size=ops.length->Region.ready .any ops.toArray listed=[]->∀i,i<ops.length->listed.getD i false=true:=by
  intro listed hs hr i;induction i using Nat.strongRecOn with
  |ind i ih=>
   intro hi;cases hl:listed.getD i false with
   |true=>rfl
   |false=>
    have ho:ops[i]? =some ops[i]:=q7 hi
    have:i∈Region.ready .any ops.toArray listed:=mem_ready.2 ⟨getD_in (by omega) hl,ops[i],by simpa using ho,λe he hb=>by
     have hp:e.on∈iz ops[i]:=q14.2 ⟨e,List.mem_filter.2 ⟨by simpa using he,hb⟩,rfl⟩;have hlt:=qL i _ ho _ hp
     exact ih e.on hlt (by omega)⟩
    rw[hr] at this;cases this
 have cy:∀(listed:Array Bool) (φ:Nat->LS) (fp:nN) (S:nP) (a:Act) (w:World),(∀i,i<ops.length->listed.getD i false=true)→
  RS B N φ fp S (dy os qs (λi=>listed.getD i false) ts0 m0 ops.length).1 (dy os qs (λi=>listed.getD i false) ts0 m0 ops.length).2 a w->Q .normal a w:=by
  intro listed φ fp S a w hl h;have e:dy os qs (λi=>listed.getD i false) ts0 m0 ops.length=dy os qs (λ_=>true) ts0 m0 ops.length:=kU ops.length (q17 _) λq hq=>hl q hq;rw[e] at h;exact hQ a w ⟨φ,fp,S,_,_,h,hK⟩
 intro fuel;induction fuel with
 |zero=>
  intro listed φ fp S a w hs hc hsk hf h;have hl:∀i,i<ops.length->listed.getD i false=true:=by
   intro i hi;cases hl:listed.getD i false with
   |true=>rfl
   |false=>
    have h0:CY ops.length listed=0:=Nat.le_zero.1 hf;have:=List.countP_eq_zero.1 h0 i (List.mem_range.2 hi);rw[hl] at this;exact absurd rfl this
  refine ⟨?_,cy listed φ fp S a w hl h⟩;cases hr:Region.ready .any ops.toArray listed with
  |nil=>rfl
  |cons j r=>
   have hj:j∈Region.ready .any ops.toArray listed:=(by rw[hr];exact q13 ..);obtain ⟨h0,o,ho,_⟩:=mem_ready.1 hj;have hjn:j<ops.length:=(by simpa using (q1.1 ho).1);have:=hl j hjn;rw[getD_both h0] at this;cases this
 |succ fuel ih=>
  intro listed φ fp S a w hs hc hsk hf h;refine ⟨λhr=>cy listed φ fp S a w (cP listed hs hr) h,λj hj=>?_⟩;obtain ⟨h0,o,ho,dD⟩:=mem_ready.1 hj;have hdj:listed.getD j false=false:=getD_both h0;have ho':ops[j]? =some o:=by simpa using ho
  have hjn:j<ops.length:=(q9.1 ho').1;have hp:∀i,i∈iz o->listed.getD i false=true:=by intro i hi;obtain ⟨e,he,rfl⟩:=q14.1 hi;obtain ⟨he1,he2⟩:=List.mem_filter.1 he;exact dD e (by simpa using he1) he2
  obtain ⟨⟨rd,hya⟩,hlk,hlb⟩:=hR.Vp (D:=λi=>listed.getD i false) hB hc (λi hi=>by
   rcases Nat.lt_or_ge i listed.size with h'|h'
   . omega
   rw[q0,Array.getElem?_eq_none h'] at hi;cases hi) hsk ho' hdj hp
  have hD':(λi=>(listed.setIfInBounds j true).getD i false)=iT (λi=>listed.getD i false) j:=by
   funext i;by_cases e:i=j
   . subst e;simp[iT,hs,hjn]
   have e2:(i==j)=false:=(by simpa using e);rw[getD_set_ne false (Ne.symm e)];simp[iT,e2]
  have hf':CY ops.length (listed.setIfInBounds j true)<=fuel:=by
   have:CY ops.length (listed.setIfInBounds j true)<CY ops.length listed:=by
    refine pX _ j (List.mem_range.2 hjn) (by simp only[hdj];rfl) (by simp[hs,hjn]) λi hi=>?_;by_cases e:i=j
    . subst e;rw[hdj];rfl
    rw[getD_set_ne false (Ne.symm e)] at hi;exact hi
   omega
  have next:∀a' w',ia B N (λts m=>ts=mE o.dst (qs j).x (dy os qs (λi=>listed.getD i false) ts0 m0 ops.length).1/\m=(qs j).new++(dy os qs (λi=>listed.getD i false) ts0 m0 ops.length).2) a' w'→
   wpAny P .any ops.toArray Q fuel (listed.setIfInBounds j true) a' w':=by
   rintro a' w' ⟨φ',fp',S',ts',m',h',rfl,rfl⟩
   refine ih _ φ' fp' S' a' w' (by simp [hs]) (by rw [hD'];exact hc.add ho' hp) (λi hi=>by
    by_cases e:i=j
    . subst e;simp[hs,hjn]
    rw[getD_set_ne false (Ne.symm e)];exact hsk i hi) hf' ?_
   rw[hD'];exact h'.ext hlk hlb
  have hdo:∀d,o.dst=some d->d<N:=by intro d hd;have:=q4.1 hok o (List.mem_of_getElem? ho');rw[hd] at this;simpa using this
  unfold wpOp;simp only[ho];rcases hya with ⟨hw,_,cH⟩|⟨hw,hx,iq⟩
  . rw[cr h hgs ho' hw];simp only[if_true];refine .inl (gu h (x_ (cH _ (λ_ _=>rfl) (λ_ _=>rfl) (λx m'=>x=(qs j).x/\m'=(qs j).new++(dy os qs (λi=>listed.getD i false) ts0 m0 ops.length).2) ⟨rfl,rfl⟩)) λv w' hg=>?_);exact next _ _ (step_done hdo hg λx m' ⟨h1,h2⟩=>⟨by rw[h1],h2⟩)
  rw[cr h hgs ho' hw];simp only[q3,if_false];refine next _ _ (step_done (k:=λx m'=>x= .aX []/\m'=(dy os qs (λi=>listed.getD i false) ts0 m0 ops.length).2) hdo (h.gives (x:=.aX []) (.rd _ _ (.aX [] #[] rfl λi hi=>absurd hi (q20 _))) (λ_ _ hl=>by cases hl) ⟨rfl,rfl,rfl⟩) λx m' ⟨h1,h2⟩=>⟨by rw[h1,hx],by rw[h2,iq];rfl⟩)
end
def zA (m' m:Mem):lN:=(m'.take (m'.length-m.length)).map (·.1)
theorem SI (new m:Mem):zA (new++m) m=new.map (·.1):=by unfold zA;rw[List.length_append,Nat.add_sub_cancel,List.take_left'];rfl
def sD (P:pR)(ops:List Oper):List Oper->Env->Mem->List (lN × lN)->St->Prop
 | [],ts,m,tr,k=>mM ops tr.reverse=true/\k ts m
 |o::r,ts,m,tr,k=>match o.guard with
  |none=>cA P (o.dst.getD 0) o.op ts m λx m'=>sD P ops r (mE o.dst x ts) m' ((vX o.op ts,zA m' m)::tr) k
  |some (j,want)=>gv want (look ts (jL ops j)) (cA P (o.dst.getD 0) o.op ts m λx m'=>sD P ops r (mE o.dst x ts) m' ((vX o.op ts,zA m' m)::tr) k)
    (sD P ops r (mE o.dst (.aX []) ts) m (([],[])::tr) k)
theorem mem_keys {new:Mem}{l:Nat}(h:ah new l≠none):l∈new.map (·.1):=by
 induction new with
 |nil=>exact absurd rfl h
 |cons p r ih=>
  obtain ⟨k,v⟩:=p;rw[aw] at h;by_cases e:k=l
  . simp[e]
  rw[if_neg e] at h;exact q12 _ (ih h)
theorem H5 {os:Nat->Oper}{qs qs':Nat->Rec}{D:Nat->Bool}{ts:Env}{m:Mem}:∀(i:Nat),(∀j,j<i->qs j=qs' j)->dy os qs D ts m i=dy os qs' D ts m i
 |0,_=>rfl
 |i+1,h=>by simp only[dy];rw[H5 i λj hj=>h j (by omega),h i (by omega)]
def Ye (P:pR)(sk:Nat)(ops:List Oper)(os:Nat->Oper)(qs:Nat->Rec)(tr:List (lN × lN))(ts:Env)(m:Mem)(n:Nat):Prop:=
 ∀i o,sk<=i->i<n->ops[i]? =some o->∃t,tr[i]? =some t/\YA P ops o (qs i) t.1 (dy os qs (λ_=>true) ts m i).1 (dy os qs (λ_=>true) ts m i).2/\∀l,l∈(qs i).new.map (·.1)->l∈t.2
theorem ye {P:pR}{sk:Nat}{ops:List Oper}{os:Nat->Oper}(hos:∀i o,sk<=i->ops[i]? =some o->os i=o){ts0:Env}{m0:Mem}{K:St}:
 ∀(r:List Oper) (i:Nat) (qs:Nat->Rec) (tr:List (lN × lN)) (ts:Env) (m:Mem),ops.drop i=r->sk<=i->i<=ops.length->tr.length=i->dy os qs (λ_=>true) ts0 m0 i=(ts,m)->Ye P sk ops os qs tr.reverse ts0 m0 i->sD P ops r ts m tr K→
  ∃qs' tr,SH P sk ops os qs' tr ts0 m0/\mM ops tr=true/\K (dy os qs' (λ_=>true) ts0 m0 ops.length).1 (dy os qs' (λ_=>true) ts0 m0 ops.length).2/\∀j,j<i->qs' j=qs j
 | [],i,qs,tr,ts,m,hl,XI,hin,ht,hs,hu,hk=>by
   have hn:ops.length<=i:=by have:=congrArg List.length hl;simp at this;omega
   have e:i=ops.length:=(by omega);subst e;exact ⟨qs,tr.reverse,⟨hos,λj o hsj ho=>hu j o hsj (q9.1 ho).1 ho⟩,hk.1,by rw[hs];exact hk.2,λ_ _=>rfl⟩
 |o::r,i,qs,tr,ts,m,hl,XI,hin,ht,hs,hu,hk=>by
  have hi:i<ops.length:=by have:=congrArg List.length hl;simp at this;omega
  have hoi:ops[i]? =some o:=by have:=congrArg (·[0]?) hl;simpa using this
  have hr:ops.drop (i+1)=r:=by have:=congrArg List.tail hl;simpa using this
  have go:∀(q:Rec) (t:lN × lN),YA P ops o q t.1 ts m->(∀l,l∈q.new.map (·.1)->l∈t.2)->sD P ops r (mE o.dst q.x ts) (q.new++m) (t::tr) K→
   ∃qs' tr,SH P sk ops os qs' tr ts0 m0/\mM ops tr=true/\K (dy os qs' (λ_=>true) ts0 m0 ops.length).1 (dy os qs' (λ_=>true) ts0 m0 ops.length).2/\∀j,j<i->qs' j=qs j:=by
   intro q t hya iq hk;have hq:∀j,j<i->qs j=(λk=>if k=i then q else qs k) j:=λj hj=>by simp;intro e;omega
   have hst:∀j,j<=i->dy os (λk=>if k=i then q else qs k) (λ_=>true) ts0 m0 j=dy os qs (λ_=>true) ts0 m0 j:=λj hj=>(H5 j λk hk=>hq k (by omega)).symm;suffices hh:∃qs' tr,SH P sk ops os qs' tr ts0 m0/\mM ops tr=true/\K (dy os qs' (λ_=>true) ts0 m0 ops.length).1 (dy os qs' (λ_=>true) ts0 m0 ops.length).2/\∀j,j<i+1->qs' j=(λk=>if k=i then q else qs k) j by obtain ⟨qs',tr',g1,g2,g3,g4⟩:=hh;exact ⟨qs',tr',g1,g2,g3,λj hj=>(g4 j (by omega)).trans (hq j hj).symm⟩
   refine ye hos r (i+1) (λk=>if k=i then q else qs k) (t::tr) _ _ hr (by omega) hi (by simp[ht]) ?_ ?_ hk
   . simp only[dy,if_true,hst i (q17 _),hs,hos i o XI hoi]
   intro j oj hsj hj hoj;rw[hst j (by omega)];rw[List.reverse_cons];by_cases e:j=i
   . subst e;rw [hoi] at hoj;injection hoj with hoj;subst hoj
     refine ⟨t,by rw[List.getElem?_append_right (by simp[ht])];simp[ht],?_,by simpa using iq⟩;rw[hs];simpa using hya
   obtain ⟨t',h1,h2,h3⟩:=hu j oj hsj (by omega) hoj;refine ⟨t',by rw[List.getElem?_append_left (by simp[ht];omega)];exact h1,?_,?_⟩
   . simpa [e] using h2
   simpa [e] using h3
  have run:cJ ops o ts=some true->cA P (o.dst.getD 0) o.op ts m (λx m'=>sD P ops r (mE o.dst x ts) m' ((vX o.op ts,zA m' m)::tr) K)→
   ∃qs' tr,SH P sk ops os qs' tr ts0 m0/\mM ops tr=true/\K (dy os qs' (λ_=>true) ts0 m0 ops.length).1 (dy os qs' (λ_=>true) ts0 m0 ops.length).2/\∀j,j<i->qs' j=qs j:=by
   intro hw hk;obtain ⟨x,new,h1,h2⟩:=O1 P _ _ _ _ _ hk;refine go ⟨x,new⟩ (vX o.op ts,zA (new++m) m) (.inl ⟨hw,λ_ h=>h,λm' hm hm' k' hk'=>h2 m' (λl hl=>hm l ?_) (λl hl=>hm' l (mem_keys hl)) k' hk'⟩) (λl hl=>by rw[SI];exact hl) h1;obtain ⟨y,hy,af,hv⟩:=hl;exact List.mem_flatMap.2 ⟨y,hy,q14.2 ⟨(l,af),hv,rfl⟩⟩
  cases hg:o.guard with
  |none=>
   simp only[sD,hg] at hk;exact run (by simp[cJ,hg]) hk
  |some jw=>
   obtain ⟨j,want⟩:=jw;simp only[sD,hg] at hk;unfold gv at hk;split at hk
   . rename_i c hy;by_cases hc:c=want
     . subst hc;exact run (by simp[cJ,hg,hy]) (hk.1 rfl)
     exact go ⟨.aX [],[]⟩ ([],[]) (.inr ⟨by simp[cJ,hg,hy,hc],rfl,rfl⟩) (λl hl=>by simp at hl) (hk.2 hc)
   . rename_i hy;exact go ⟨.aX [],[]⟩ ([],[]) (.inr ⟨by simp[cJ,hg,hy],rfl,rfl⟩) (λl hl=>by simp at hl) hk
   exact hk.elim
theorem aj.draw {P:pR}{N i:Nat}{ops:List Oper}{ts:Env}{m:Mem}{Q:de}{q:Pack (Code.region i ⟨ops⟩ true,Q)}(hm:P.follows .mixedOrders=true)(hok:(jM N ops&&df N ops)=true)
 (h:sD P ops ops ts m [] (Q .normal)):aj P N (.region i ⟨ops⟩ true) ts m Q q:=by
 refine ⟨λB φ fp S a w hRS=>?_⟩;simp only[Bool.and_eq_true] at hok;obtain ⟨qs,tr,hR,hB,hK,_⟩:=ye (os:=λi=>(ops[i]?).getD default) (ts0:=ts) (m0:=m) (sk:=0) (λi o _ ho=>by simp[ho]) ops 0 (λ_=>⟨.undef,[]⟩) [] ts m rfl (q17 _) (Nat.zero_le _) rfl rfl (λi o _ hi=>absurd hi (q20 _)) h;refine wp_region_any hm ?_;refine BL (B:=B) (N:=N) hR hB hok.1 hok.2 hK (λa w hd=>hd) _ _ φ fp S a _ (by simp) ?_ (λi hi=>absurd hi (q20 _)) ?_ ?_
 . intro j o _ hd;have hd:(q2 (List.toArray ops).size false).getD j false=true:=hd;rw[getD_replicate_false] at hd;cases hd
 . exact q18 List.countP_le_length (by simp)
 have e:(λi=>(q2 (List.toArray ops).size false).getD i false)=λ_=>false:=funext λi=>getD_replicate_false _ _;have e2:=mL (os:=λi=>(ops[i]?).getD default) (qs:=qs) (D:=λ_=>false) (ts:=ts) (m:=m) (j:=0) (λ_ _=>rfl) ops.length (Nat.zero_le _);show RS B N φ fp S (dy _ qs (λi=>(q2 (List.toArray ops).size false).getD i false) ts m ops.length).1 (dy _ qs (λi=>(q2 (List.toArray ops).size false).getD i false) ts m ops.length).2 a {w with drawn:=w.drawn+1};rw[e,e2];exact hRS.rM rfl ⟨rfl,rfl,rfl⟩
section
variable (P:pR) (d:Nat) (ts:Env) (m:Mem) (k:AV->Mem->Prop)
theorem O2 (x:Operand):iL P d (.move x) ts m k=k (ev ts x) m:=rfl
theorem H6 (x:Operand):iL P d (.assign x) ts m k=k (ev ts x) m:=rfl
theorem O3 (c a b:Operand):iL P d (.pick c a b) ts m k=qm (ev ts c) (ev ts a) (ev ts b) λv=>k v m:=rfl
theorem Lz (t:TypeId):iL P d (.alloc t) ts m k=ew (aL P t) λti=>CH d ti.zero m k:=rfl
theorem SJ (t:TypeId)(x:Operand):iL P d (.box t x) ts m k=CH d (ev ts x) m k:=rfl
theorem LB (t:TypeId)(l:List (Nat × Operand)):iL P d (.build t ⟨l⟩) ts m k=ew (aL P t) λti=>Wp ti.kind (qO ti (l.map λp=>(p.1,ev ts p.2)) λv=>k v m):=rfl
theorem yf (t:TypeId)(n:Nat)(l:List (Nat × Operand)):iL P d (.buildSlice t n ⟨l⟩) ts m k=ew (aL P t) λtt=>xr tt.kind (ew (aL P tt.elem) λti=>gK ti d n (l.map λp=>(p.1,ev ts p.2)) m k):=rfl
theorem O4 (t:TypeId)(x:Operand):iL P d (.load t x) ts m k=ew (aL P t) λti=>oH ti.agg ti.size (ev ts x) m k:=rfl
theorem LC (t:TypeId)(p y:Operand):iL P d (.store t p y) ts m k=ew (aL P t) λti=>fZ ti.size (ev ts p) (ev ts y) m λm'=>k .undef m':=rfl
theorem CZ (x:Operand):iL P d (.nilCheck x) ts m k=r_ m (ev ts x) λv=>k v m:=rfl
theorem LD (op:BinOp)(t t2:TypeId)(x y:Operand):iL P d (.binOp op t x y t2) ts m k=ew (aL P t) λti=>gq P t op (ev ts x) (ev ts y) (λv=>k v m) (lJ op ti.kind (ev ts x) (ev ts y) (U_ y) m λv=>k v m):=rfl
theorem SK (t:TypeId)(x:Operand):iL P d (.unOp .not t x) ts m k=zB (ev ts x) λv=>k v m:=rfl
theorem SL (t:TypeId)(x:Operand):iL P d (.unOp .neg t x) ts m k=CC (ev ts x) λv=>k v m:=rfl
theorem Fo (s t:TypeId)(x:Operand):iL P d (.convert s t x) ts m k=ew (aL P s) λsi=>ew (aL P t) λti=>kQ P si ti d (ev ts x) m k:=rfl
theorem zI (t:TypeId)(l c:Operand):iL P d (.makeSlice t l c) ts m k=ew (aL P t) λtt=>xr tt.kind (ew (aL P tt.elem) λti=>rW ti d (ev ts l) (ev ts c) m k):=rfl
theorem LF (t:TypeId)(x:Operand)(lo hi:Option Operand):iL P d (.slice t x lo hi none) ts m k=ew (aL P t) λtt=>ni P tt (ev ts x) (lo.map (ev ts)) (hi.map (ev ts)) m λv=>k v m:=rfl
theorem zJ (t:TypeId)(x:Operand)(f:Nat):iL P d (.fieldAddr t x f) ts m k=ew (aL P t) λti=>vO ti.fields[f]? λfd=>0<fd.2.1/\h_ fd.1 m (ev ts x) λv=>k v m:=rfl
theorem zK (t:TypeId)(x i:Operand):iL P d (.indexAddr t x i) ts m k=ew (aL P t) λtt=>xr tt.kind (ew (aL P tt.elem) λti=>vd ti.sh m (ev ts x) (ev ts i) λv=>k v m):=rfl
theorem LG (t:TypeId)(x i:Operand):iL P d (.index t x i) ts m k=ew (aL P t) λtt=>(match tt.kind with| .string=>True|_=>False)/\na (ev ts x) (ev ts i) λv=>k v m:=rfl
theorem Fp (x:Operand)(i:Nat):iL P d (.extract x i) ts m k=zC i (ev ts x) λv=>k v m:=rfl
theorem SM (t:TypeId)(r:List TypeId)(x:Operand):iL P d (.call ⟨.builtin .len,⟨[x]⟩,⟨t::r⟩⟩) ts m k=ew (aL P t) λti=>m_ ti.kind m (ev ts x) λv=>k v m:=rfl
theorem SN (tys:Array TypeId)(x y:Operand):iL P d (.call ⟨.builtin .max,⟨[x,y]⟩,tys⟩) ts m k=wz (ev ts x) (ev ts y) λv=>k v m:=rfl
theorem SO (tys:Array TypeId)(x y:Operand):iL P d (.call ⟨.builtin .min,⟨[x,y]⟩,tys⟩) ts m k=mY (ev ts x) (ev ts y) λv=>k v m:=rfl
theorem H7 (tys:List TypeId)(x y:Operand):iL P d (.call ⟨.builtin .append,⟨[x,y]⟩,⟨tys⟩⟩) ts m k=kP P tys d (ev ts x) (ev ts y) m k:=rfl
theorem O5 (f:fI)(xs:lO)(tys:Array TypeId):iL P d (.call ⟨.value (.func f),⟨xs⟩,tys⟩) ts m k=n9 P f d (xs.map (ev ts)) m k:=rfl
theorem LH (t:Nat)(xs:lO)(tys:Array TypeId):iL P d (.call ⟨.value (.tmp t),⟨xs⟩,tys⟩) ts m k=nj P (look ts t) d (xs.map (ev ts)) m k:=rfl
theorem C0 (f:fI)(l:lO):iL P d (.makeFunc (.func f) ⟨[]⟩ ⟨l⟩) ts m k=(([]:lO)=[]/\k (.cn f (l.map (ev ts))) m):=rfl
theorem LI (x:Operand):cA P d (.move x) ts m k=k (ev ts x) m:=rfl
theorem Fq (x:Operand):cA P d (.assign x) ts m k=k (ev ts x) m:=rfl
theorem LJ (c a b:Operand):cA P d (.pick c a b) ts m k=qm (ev ts c) (ev ts a) (ev ts b) λv=>k v m:=rfl
theorem H8 (t:TypeId):cA P d (.alloc t) ts m k=ew (aL P t) λti=>CH d ti.zero m k:=rfl
theorem H9 (t:TypeId)(l:List (Nat × Operand)):cA P d (.build t ⟨l⟩) ts m k=ew (aL P t) λti=>Wp ti.kind (qO ti (l.map λp=>(p.1,ev ts p.2)) λv=>k v m):=rfl
theorem vY (t:TypeId)(n:Nat)(l:List (Nat × Operand)):cA P d (.buildSlice t n ⟨l⟩) ts m k=ew (aL P t) λtt=>xr tt.kind (ew (aL P tt.elem) λti=>gK ti d n (l.map λp=>(p.1,ev ts p.2)) m k):=rfl
theorem LK (t:TypeId)(x:Operand):cA P d (.load t x) ts m k=ew (aL P t) λti=>oG ti.agg ti.size (ev ts x) m k:=rfl
theorem H_ (t:TypeId)(p y:Operand):cA P d (.store t p y) ts m k=ew (aL P t) λti=>kN ti.size (ev ts p) (ev ts y) m λm'=>k .undef m':=rfl
theorem zL (x:Operand):cA P d (.nilCheck x) ts m k=r_ m (ev ts x) λv=>k v m:=rfl
theorem H' (op:BinOp)(t t2:TypeId)(x y:Operand):cA P d (.binOp op t x y t2) ts m k=ew (aL P t) λti=>gq P t op (ev ts x) (ev ts y) (λv=>k v m) (kL op ti.kind (ev ts x) (ev ts y) λv=>k v m):=rfl
theorem O6 (t:TypeId)(x:Operand):cA P d (.unOp .not t x) ts m k=zB (ev ts x) λv=>k v m:=rfl
theorem C1 (s t:TypeId)(x:Operand):cA P d (.convert s t x) ts m k=ew (aL P s) λsi=>ew (aL P t) λti=>kQ P si ti d (ev ts x) m k:=rfl
theorem Ia (t:TypeId)(x:Operand)(lo hi:Option Operand):cA P d (.slice t x lo hi none) ts m k=ew (aL P t) λtt=>ni P tt (ev ts x) (lo.map (ev ts)) (hi.map (ev ts)) m λv=>k v m:=rfl
theorem yg (t:TypeId)(x:Operand)(f:Nat):cA P d (.fieldAddr t x f) ts m k=ew (aL P t) λti=>vO ti.fields[f]? λfd=>0<fd.2.1/\h_ fd.1 m (ev ts x) λv=>k v m:=rfl
theorem yh (t:TypeId)(x i:Operand):cA P d (.indexAddr t x i) ts m k=ew (aL P t) λtt=>xr tt.kind (ew (aL P tt.elem) λti=>oS ti.sh m (ev ts x) (ev ts i) λv=>k v m):=rfl
theorem C2 (x:Operand)(i:Nat):cA P d (.extract x i) ts m k=zC i (ev ts x) λv=>k v m:=rfl
theorem O7 (t:TypeId)(r:List TypeId)(x:Operand):cA P d (.call ⟨.builtin .len,⟨[x]⟩,⟨t::r⟩⟩) ts m k=ew (aL P t) λti=>m_ ti.kind m (ev ts x) λv=>k v m:=rfl
theorem O8 (tys:Array TypeId)(x y:Operand):cA P d (.call ⟨.builtin .max,⟨[x,y]⟩,tys⟩) ts m k=wz (ev ts x) (ev ts y) λv=>k v m:=rfl
theorem O9 (tys:Array TypeId)(x y:Operand):cA P d (.call ⟨.builtin .min,⟨[x,y]⟩,tys⟩) ts m k=mY (ev ts x) (ev ts y) λv=>k v m:=rfl
theorem Fs (tys:List TypeId)(x y:Operand):cA P d (.call ⟨.builtin .append,⟨[x,y]⟩,⟨tys⟩⟩) ts m k=kP P tys d (ev ts x) (ev ts y) m k:=rfl
theorem LM (f:fI)(xs:lO)(tys:Array TypeId):cA P d (.call ⟨.value (.func f),⟨xs⟩,tys⟩) ts m k=nt P f d (xs.map (ev ts)) m k:=rfl
theorem zM (f:fI)(l:lO):cA P d (.makeFunc (.func f) ⟨[]⟩ ⟨l⟩) ts m k=(([]:lO)=[]/\k (.cn f (l.map (ev ts))) m):=rfl
def Br (c:Bool)(a b:Prop)(_:Pack (a,b)):Prop:=(c=true->a)/\(c=false->b)
theorem SP (a b:Prop){q:Pack (a,b)}:Br true a b q=a:=by simp[Br]
theorem O_ (a b:Prop){q:Pack (a,b)}:Br false a b q=b:=by simp[Br]
theorem Br.intro {c:Bool}{a b:Prop}{q:Pack (a,b)}(ha:c=true->a)(hb:c=false->b):Br c a b q:=⟨ha,hb⟩
theorem SQ (c:Bool)(a b:Prop):UC (.val (.bool c)) a b=Br c a b ⟨⟩:=rfl
theorem LN (c:Bool)(a b:AV)(k:AV->Prop):qm (.val (.bool c)) a b k=Br c (k a) (k b) ⟨⟩:=rfl
theorem LO (c:Bool)(a b:Prop):gv true (.val (.bool c)) a b=Br c a b ⟨⟩:=by simp[gv,Br]
theorem LP (c:Bool)(a b:Prop):gv false (.val (.bool c)) a b=Br c b a ⟨⟩:=by simp only[N7,Br];exact propext and_comm
variable (ops:List Oper) (tr:List (lN × lN)) (K:St)
def qW (r:List Oper)(_:Pack (P,ops,r,d,ts,K))(x:AV)(m':Mem):Prop:=sL P ops r ((d,x)::ts) m' K
def Ze (r:List Oper)(_:Pack (P,ops,r,ts,K))(_:AV)(m':Mem):Prop:=sL P ops r ts m' K
def Ib (op:Op)(r:List Oper)(_:Pack (P,ops,r,d,op,ts,m,tr,K))(x:AV)(m':Mem):Prop:=sD P ops r ((d,x)::ts) m' ((vX op ts,zA m' m)::tr) K
def WV (op:Op)(r:List Oper)(_:Pack (P,ops,r,op,ts,m,tr,K))(_:AV)(m':Mem):Prop:=sD P ops r ts m' ((vX op ts,zA m' m)::tr) K
theorem SR:sL P ops [] ts m K=K ts m:=rfl
theorem LQ (op:Op)(ty:TypeId)(p:String)(e:Array Edge)(r:List Oper):sL P ops (⟨some d,op,ty,p,e,none⟩::r) ts m K=iL P d op ts m (qW P d ts ops K r ⟨⟩):=rfl
theorem LR (op:Op)(ty:TypeId)(p:String)(e:Array Edge)(r:List Oper):sL P ops (⟨none,op,ty,p,e,none⟩::r) ts m K=iL P 0 op ts m (Ze P ts ops K r ⟨⟩):=rfl
theorem LU (op:Op)(ty:TypeId)(p:String)(e:Array Edge)(j:Nat)(w:Bool)(r:List Oper):
 sL P ops (⟨some d,op,ty,p,e,some (j,w)⟩::r) ts m K=gv w (look ts (jL ops j)) (iL P d op ts m (qW P d ts ops K r ⟨⟩)) (sL P ops r ((d,.aX [])::ts) m K):=rfl
theorem Vq:sD P ops [] ts m tr K=(mM ops tr.reverse=true/\K ts m):=rfl
theorem O' (op:Op)(ty:TypeId)(p:String)(e:Array Edge)(r:List Oper):
 sD P ops (⟨some d,op,ty,p,e,none⟩::r) ts m tr K=cA P d op ts m (Ib P d ts m ops tr K op r ⟨⟩):=rfl
theorem Pa (op:Op)(ty:TypeId)(p:String)(e:Array Edge)(r:List Oper):
 sD P ops (⟨none,op,ty,p,e,none⟩::r) ts m tr K=cA P 0 op ts m (WV P ts m ops tr K op r ⟨⟩):=rfl
theorem Pb (op:Op)(ty:TypeId)(p:String)(e:Array Edge)(j:Nat)(w:Bool)(r:List Oper):
 sD P ops (⟨some d,op,ty,p,e,some (j,w)⟩::r) ts m tr K=gv w (look ts (jL ops j)) (cA P d op ts m (Ib P d ts m ops tr K op r ⟨⟩))
  (sD P ops r ((d,.aX [])::ts) m (([],[])::tr) K):=rfl
theorem Ic (g:Nat × bf)(m':Mem)(r:List Oper){q:Pack (P,ops,r,ts,K)}:Ze P ts ops K r q (.undef) (g::m')=sL P ops r ts (g::m') K:=rfl
theorem Ft (g:Nat × bf)(m':Mem)(r:List Oper)(op:Op){q:Pack (P,ops,r,op,ts,m,tr,K)}:WV P ts m ops tr K op r q (.undef) (g::m')=sD P ops r ts (g::m') ((vX op ts,zA (g::m') m)::tr) K:=rfl
theorem LV (v:Value)(r:List Oper){q:Pack (P,ops,r,d,ts,K)}:qW P d ts ops K r q (.val v) []=sL P ops r ((d,.val v)::ts) [] K:=rfl
theorem Pc (v:Value)(r:List Oper)(op:Op){q:Pack (P,ops,r,d,op,ts,m,tr,K)}:Ib P d ts m ops tr K op r q (.val v) []=sD P ops r ((d,.val v)::ts) [] ((vX op ts,zA [] m)::tr) K:=rfl
theorem LW (v:Value)(g:Nat × bf)(m':Mem)(r:List Oper){q:Pack (P,ops,r,d,ts,K)}:qW P d ts ops K r q (.val v) (g::m')=sL P ops r ((d,.val v)::ts) (g::m') K:=rfl
theorem Pd (v:Value)(g:Nat × bf)(m':Mem)(r:List Oper)(op:Op){q:Pack (P,ops,r,d,op,ts,m,tr,K)}:Ib P d ts m ops tr K op r q (.val v) (g::m')=sD P ops r ((d,.val v)::ts) (g::m') ((vX op ts,zA (g::m') m)::tr) K:=rfl
theorem LX (sh:Sh)(xs:lA)(r:List Oper){q:Pack (P,ops,r,d,ts,K)}:qW P d ts ops K r q (.arr sh xs) []=sL P ops r ((d,.arr sh xs)::ts) [] K:=rfl
theorem Pe (sh:Sh)(xs:lA)(r:List Oper)(op:Op){q:Pack (P,ops,r,d,op,ts,m,tr,K)}:Ib P d ts m ops tr K op r q (.arr sh xs) []=sD P ops r ((d,.arr sh xs)::ts) [] ((vX op ts,zA [] m)::tr) K:=rfl
theorem LY (sh:Sh)(xs:lA)(g:Nat × bf)(m':Mem)(r:List Oper){q:Pack (P,ops,r,d,ts,K)}:qW P d ts ops K r q (.arr sh xs) (g::m')=sL P ops r ((d,.arr sh xs)::ts) (g::m') K:=rfl
theorem Pf (sh:Sh)(xs:lA)(g:Nat × bf)(m':Mem)(r:List Oper)(op:Op){q:Pack (P,ops,r,d,op,ts,m,tr,K)}:Ib P d ts m ops tr K op r q (.arr sh xs) (g::m')=sD P ops r ((d,.arr sh xs)::ts) (g::m') ((vX op ts,zA (g::m') m)::tr) K:=rfl
theorem LZ (xs:lA)(r:List Oper){q:Pack (P,ops,r,d,ts,K)}:qW P d ts ops K r q (.agg xs) []=sL P ops r ((d,.agg xs)::ts) [] K:=rfl
theorem Pg (xs:lA)(r:List Oper)(op:Op){q:Pack (P,ops,r,d,op,ts,m,tr,K)}:Ib P d ts m ops tr K op r q (.agg xs) []=sD P ops r ((d,.agg xs)::ts) [] ((vX op ts,zA [] m)::tr) K:=rfl
theorem L0 (xs:lA)(g:Nat × bf)(m':Mem)(r:List Oper){q:Pack (P,ops,r,d,ts,K)}:qW P d ts ops K r q (.agg xs) (g::m')=sL P ops r ((d,.agg xs)::ts) (g::m') K:=rfl
theorem Ph (xs:lA)(g:Nat × bf)(m':Mem)(r:List Oper)(op:Op){q:Pack (P,ops,r,d,op,ts,m,tr,K)}:Ib P d ts m ops tr K op r q (.agg xs) (g::m')=sD P ops r ((d,.agg xs)::ts) (g::m') ((vX op ts,zA (g::m') m)::tr) K:=rfl
theorem L1 (xs:lA)(r:List Oper){q:Pack (P,ops,r,d,ts,K)}:qW P d ts ops K r q (.aX xs) []=sL P ops r ((d,.aX xs)::ts) [] K:=rfl
theorem Pj (xs:lA)(r:List Oper)(op:Op){q:Pack (P,ops,r,d,op,ts,m,tr,K)}:Ib P d ts m ops tr K op r q (.aX xs) []=sD P ops r ((d,.aX xs)::ts) [] ((vX op ts,zA [] m)::tr) K:=rfl
theorem L2 (xs:lA)(g:Nat × bf)(m':Mem)(r:List Oper){q:Pack (P,ops,r,d,ts,K)}:qW P d ts ops K r q (.aX xs) (g::m')=sL P ops r ((d,.aX xs)::ts) (g::m') K:=rfl
theorem Pk (xs:lA)(g:Nat × bf)(m':Mem)(r:List Oper)(op:Op){q:Pack (P,ops,r,d,op,ts,m,tr,K)}:Ib P d ts m ops tr K op r q (.aX xs) (g::m')=sD P ops r ((d,.aX xs)::ts) (g::m') ((vX op ts,zA (g::m') m)::tr) K:=rfl
theorem L3 (l v i n:Nat)(g:Nat × bf)(m':Mem)(r:List Oper){q:Pack (P,ops,r,d,ts,K)}:qW P d ts ops K r q (.ref l v i n) (g::m')=sL P ops r ((d,.ref l v i n)::ts) (g::m') K:=rfl
theorem Pm (l v i n:Nat)(g:Nat × bf)(m':Mem)(r:List Oper)(op:Op){q:Pack (P,ops,r,d,op,ts,m,tr,K)}:Ib P d ts m ops tr K op r q (.ref l v i n) (g::m')=sD P ops r ((d,.ref l v i n)::ts) (g::m') ((vX op ts,zA (g::m') m)::tr) K:=rfl
theorem L4 (l v i j:Nat)(g:Nat × bf)(m':Mem)(r:List Oper){q:Pack (P,ops,r,d,ts,K)}:qW P d ts ops K r q (.ptr l v i j) (g::m')=sL P ops r ((d,.ptr l v i j)::ts) (g::m') K:=rfl
theorem Pn (l v i j:Nat)(g:Nat × bf)(m':Mem)(r:List Oper)(op:Op){q:Pack (P,ops,r,d,op,ts,m,tr,K)}:Ib P d ts m ops tr K op r q (.ptr l v i j) (g::m')=sD P ops r ((d,.ptr l v i j)::ts) (g::m') ((vX op ts,zA (g::m') m)::tr) K:=rfl
theorem Ie (sh:Sh)(xs:lA)(i j:Nat)(r:List Oper){q:Pack (P,ops,r,d,ts,K)}:qW P d ts ops K r q (.bo sh xs i j) []=sL P ops r ((d,.bo sh xs i j)::ts) [] K:=rfl
theorem L5 (sh:Sh)(xs:lA)(i j:Nat)(r:List Oper)(op:Op){q:Pack (P,ops,r,d,op,ts,m,tr,K)}:Ib P d ts m ops tr K op r q (.bo sh xs i j) []=sD P ops r ((d,.bo sh xs i j)::ts) [] ((vX op ts,zA [] m)::tr) K:=rfl
theorem Ig (sh:Sh)(xs:lA)(i j:Nat)(g:Nat × bf)(m':Mem)(r:List Oper){q:Pack (P,ops,r,d,ts,K)}:qW P d ts ops K r q (.bo sh xs i j) (g::m')=sL P ops r ((d,.bo sh xs i j)::ts) (g::m') K:=rfl
theorem L6 (sh:Sh)(xs:lA)(i j:Nat)(g:Nat × bf)(m':Mem)(r:List Oper)(op:Op){q:Pack (P,ops,r,d,op,ts,m,tr,K)}:Ib P d ts m ops tr K op r q (.bo sh xs i j) (g::m')=sD P ops r ((d,.bo sh xs i j)::ts) (g::m') ((vX op ts,zA (g::m') m)::tr) K:=rfl
theorem L7 (f:fI)(xs:lA)(g:Nat × bf)(m':Mem)(r:List Oper){q:Pack (P,ops,r,d,ts,K)}:qW P d ts ops K r q (.cn f xs) (g::m')=sL P ops r ((d,.cn f xs)::ts) (g::m') K:=rfl
theorem Po (f:fI)(xs:lA)(g:Nat × bf)(m':Mem)(r:List Oper)(op:Op){q:Pack (P,ops,r,d,op,ts,m,tr,K)}:Ib P d ts m ops tr K op r q (.cn f xs) (g::m')=sD P ops r ((d,.cn f xs)::ts) (g::m') ((vX op ts,zA (g::m') m)::tr) K:=rfl
end
attribute [go_sem ↓] R7 KX R8 Vb R9 N_ R_ Sa Vd SR LQ LR
attribute [go_sem ↓] LU O2 H6 O3 Lz SJ LB yf O4 LC CZ LD
attribute [go_sem ↓] SK SL Fo zI LF zJ zK LG Fp SM
attribute [go_sem ↓] SN SO H7 O5 LH C0 LI Fq LJ H8
attribute [go_sem ↓] H9 vY LK H_ zL H' O6 C1 Ia
attribute [go_sem ↓] yg yh C2 O7 O8 O9 Fs zM
attribute [go_sem ↓] LM Vq O' Pa Pb
attribute [go_sem] Ic Ft LV Pc
attribute [go_sem] LW Pd
attribute [go_sem] LX Pe LY Pf LZ Pg
attribute [go_sem] L0 Ph L1 Pj L2 Pk
attribute [go_sem] L3 Pm
attribute [go_sem] L4 Pn Ie L5 Ig L6
attribute [go_sem] L7 Po
attribute [go_sem] SP O_ SQ LN LO LP
attribute [go_sem ↓] look_nil cN tn aw TI.WA Ru NB Hh KB D0 D3 CB
attribute [go_sem ↓] UA NC wy tq z8 D4 z_ D5 D6
attribute [go_sem ↓] D7 D8 UE UF UG UH UI UJ UK UL UM UN
attribute [go_sem ↓] UO ND NF JB JC Aa JD JE
attribute [go_sem ↓] JF Ab wA Ac Ad Hi Hj Hk
attribute [go_sem ↓] D9 mZ rN wB uA wC wD Ae wE
attribute [go_sem ↓] wF uB wG wH uC Af Ag wI
attribute [go_sem ↓] uE D_ Ea Eb Ec Ah Ai wJ wK wL
attribute [go_sem ↓] wM wN wO Ed tu Ee uF rO
attribute [go_sem ↓] wP uG uH uI uJ uK uL
attribute [go_sem ↓] Ei wR Ak wS Ej wT Am Ek
attribute [go_sem ↓] An wU rS uM oI uN Ao JJ
attribute [go_sem ↓] KL Ho rT qo wX rU qq
attribute [go_sem ↓] uO uP uQ rV uR
attribute [go_sem ↓] uS NM NN NO En Ar Eo Ep
attribute [go_sem ↓] As Au Av wZ Ax Ay uU uV
attribute [go_sem ↓] Az AA w8 uW AB AD Ew w9 w_ xb
attribute [go_sem ↓] AF xe AG xf uX oP AJ xh xi
attribute [go_sem ↓] xj r6 qt AK AL AM AN AO AP xk uY
attribute [go_sem ↓] AQ AR AS xl AT AU AW xm uZ EA
attribute [go_sem ↓] EB EC ED AX AY AZ
attribute [go_sem ↓] A0 A1 xo u9 A2 A3 A4 A5 A6 xp
attribute [go_sem ↓] xq u_ n_ A8 xu EL A9 EM EN EO A_
attribute [go_sem ↓] xw EP A' Ba
attribute [go_sem ↓] Bb JP Bc Bd KR RP JQ JR
attribute [go_sem ↓] Be Bf ve Bg xx sa xy oU nk oV
attribute [go_sem ↓] xz RU ES sb xB xC sc xD xE
attribute [go_sem ↓] EX KW Hv Hw Hx R5 N8 Hy R6 N9 KY
attribute [go_sem ↓] KZ Hz Ob Oc Od
attribute [go_sem ↓] EZ Oe Of K0 K1 K3 K4 K5 K6
attribute [go_sem ↓] Og K7 Oh Oi Oj Ol Om On xJ
attribute [go_sem ↓] Oo Oq Ot Ou Ov K8 Ow Ox K9 Oy
attribute [go_sem ↓] K_ HC HE Ld Oz Le Sb vg xQ so sq
attribute [go_sem ↓] qz Bi Bj Bk xR vj Bl Bm Bo xS
attribute [go_sem ↓] vm Lg Lh tC Sd Li HG Se OB mF E4
attribute [go_sem ↓] E5 E6 Bu OC kB E7
attribute [go_sem ↓] Bv xU Bw Bx By Bz BA BB xV Lk
attribute [go_sem ↓] HI BD BE E8 pO kS BF lP Ff ON Lm HO
attribute [go_sem ↓] Ln HP OO Lo OP Lp OQ Lq Lr HQ Ls HR
attribute [go_sem ↓] Lt HS Lu HT SC OR OS Lv Vg Vh
attribute [go_sem ↓] Vi Sj OE Sk Sl Sm OF HK Sn
attribute [go_sem ↓] OG Ll Sp Sq Sr Ss OH HL Su Sv Sw
attribute [go_sem ↓] BG
attribute [go_sem] wy tq z8 D4 z_ D5 D6 D7 D8 ND NF
attribute [go_sem] JB JC Aa JD JE JF Ab wA Ac Ad
attribute [go_sem] rN wB uA wC wD Ae wE
attribute [go_sem] wF uB wG wH uC Af Ag wI
attribute [go_sem] uE D_ Ea Eb Ec Ah Ai wJ wK wL
attribute [go_sem] wM wN wO Ee uF rO wP
attribute [go_sem] uG uH uI uJ uK uL Ei
attribute [go_sem] wR Ak wS Ej wT Am Ek An wU
attribute [go_sem] rS uM oI uN Ao JJ rT
attribute [go_sem] qo rU qq uO uP uQ rV
attribute [go_sem] uR uS En Ar Eo Ep
attribute [go_sem] As Au Av wZ Ax Ay uU uV
attribute [go_sem] Az AA w8 uW AB AD Ew w9 w_ xb
attribute [go_sem] AF xe AG xf uX oP Ex Ey
attribute [go_sem] NU NV NW AH xg AJ xh xi xj r6 qt
attribute [go_sem] AK AL AM AN AO AP xk uY AQ AR
attribute [go_sem] AS xl AT AU AW xm uZ EA EB EC
attribute [go_sem] ED AX AY AZ A0 A1 xo u9
attribute [go_sem] A2 A3 A4 A5 A6 xp xq u_ n_ A8 xu
attribute [go_sem] EL A9 EM EN EO A_ xw EP
attribute [go_sem] A' Ba Bb JP Bc
attribute [go_sem] Bd JQ JR Be Bf ve Bg xx sa
attribute [go_sem] xy oU nk oV xz ES sb xB xC
attribute [go_sem] sc xD xE EX vg xQ so sq qz Bi
attribute [go_sem] Bj Bk xR vj Bl Bm Bo xS vm E4
attribute [go_sem] E5 E6 Bu kB E7 Bv xU
attribute [go_sem] Bw Bx By Bz BA BB xV BD BE E8
attribute [go_sem] pO BG
attribute [go_sem] List.getElem?_cons_zero List.getElem?_cons_succ List.getElem?_nil List.map_cons List.map_nil List.length_cons List.length_nil List.drop_zero List.drop_succ_cons List.take_zero List.take_succ_cons List.take_nil List.drop_nil List.set_cons_zero List.set_cons_succ q21 Nat.add_zero
attribute [go_sem] List.length_map List.getElem?_map Option.map_some Bool.true_and Bool.false_and
attribute [go_sem] WB List.reverse_cons List.reverse_nil q15 List.cons_append Bool.true_eq_false q3 false_implies implies_true and_true true_and forall_const true_implies
attribute [go_sem ↓] reduceIte
attribute [go_sem] Nat.reduceEqDiff Nat.reduceLT Nat.reduceAdd Nat.reduceMul Nat.reduceLeDiff Int.reduceToNat
attribute [go_sem] q17 Int.natCast_zero Int.toNat_natCast
def pick (L:lN)(ts:Env):Env:=L.map λt=>(t,look ts t)
theorem o6 (ts:Env):pick [] ts=[]:=rfl
theorem tI (t:Nat)(L:lN)(ts:Env):pick (t::L) ts=(t,look ts t)::pick L ts:=rfl
def Ws:lN->Nat->Bool
 | [],_=>false
 |d::D,l=>l==d||(l / 1000==d+1||Ws D l)
theorem sF (l:Nat):Ws [] l=false:=rfl
theorem yi (d:Nat)(D:lN)(l:Nat):Ws (d::D) l=(l==d||(l / 1000==d+1||Ws D l)):=rfl
def Wt:lN->Nat->Bool
 | [],_=>false
 |d::D,l=>l==d||Wt D l
theorem sG (l:Nat):Wt [] l=false:=rfl
theorem o7 (d:Nat)(D:lN)(l:Nat):Wt (d::D) l=(l==d||Wt D l):=rfl
def iA (D E:lN):Mem->Mem
 | []=>[]
 |(l,b)::r=>if (Ws D l||Wt E l)=true then iA D E r else (l,b)::iA D (l::E) r
theorem mN (D E:lN):iA D E []=[]:=rfl
theorem kV (D E:lN)(l:Nat)(b:bf)(r:Mem):iA D E ((l,b)::r)=if (Ws D l||Wt E l)=true then iA D E r else (l,b)::iA D (l::E) r:=rfl
theorem Ih (b:Bool):(true||b)=true:=rfl
theorem yj (b:Bool):(false||b)=b:=rfl
section
variable {P:pR} {N:Nat} {ts:Env} {m:Mem}
theorem aj.up {body:Code}(L D E:lN)(n:Nat)(I:nP)(up:Nat->Env)(um:Nat->Mem){Q:de}{q:Pack (Code.loop body,Q)}(h0:I 0)
 (hr:sj ts m (up 0++pick L ts) (um 0++iA D E m)) (hok:codeOk N body=true)
 (step:∀i,i<n->I i->vc P N body (up i++pick L ts) (um i++iA D E m) (zF Q λts' m'=>I (i+1)/\sj ts' m' (up (i+1)++pick L ts) (um (i+1)++iA D E m)))
 (stop:I n->vc P N body (up n++pick L ts) (um n++iA D E m) (zF Q λ_ _=>False)):aj P N (.loop body) ts m Q q:=
 aj.upto n I (λi=>(up i++pick L ts,um i++iA D E m)) h0 hr hok step stop
theorem aj.lp {body:Code}{ι:Type}(L D E:lN)(I:ι->Prop)(up:ι->Env)(um:ι->Mem)(μ:ι->Nat){Q:de}{q:Pack (Code.loop body,Q)}(x0:ι)(h0:I x0)
 (hr:sj ts m (up x0++pick L ts) (um x0++iA D E m)) (hok:codeOk N body=true)
 (step:∀x,I x->vc P N body (up x++pick L ts) (um x++iA D E m) (zF Q λts' m'=>∃y,I y/\μ y<μ x/\sj ts' m' (up y++pick L ts) (um y++iA D E m))):aj P N (.loop body) ts m Q q:=
 aj.loop I (λi=>(up i++pick L ts,um i++iA D E m)) μ x0 h0 hr hok step
end
attribute [go_sem] WD JX JY pP pQ pS tE JZ OJ CV Fb Sx oZ Sy Sz OK SA Fc SB Fe
attribute [go_sem] Nat.reduceLT true_or or_true or_false false_or o6 tI sF yi sG o7 mN kV Ih yj Nat.reduceBEq Nat.reduceDiv beq_self_eq_true q3
theorem cz (a:Nat × AV)(x y:Env):a::x++y=a::(x++y):=rfl
theorem dz (x:Env):[]++x=x:=rfl
theorem ez (a:Nat × bf)(x y:Mem):a::x++y=a::(x++y):=rfl
theorem fz (x:Mem):[]++x=x:=rfl
theorem bz (a:Nat):(a==a)=true:=beq_self_eq_true a
theorem ai {a b:Prop}(x:a)(y:b):a/\b:=⟨x,y⟩
theorem pz:type_of%(And.intro @o6 (And.intro @tI (And.intro @look_nil (And.intro @cN (And.intro @mN (And.intro @kV (And.intro @sF (And.intro @yi (And.intro @sG (And.intro @o7 (And.intro @yj (And.intro @Ih (And.intro @bz (And.intro @Bool.or_false (And.intro @Bool.false_eq_true (And.intro @cz (And.intro @dz (And.intro @ez (@fz))))))))))))))))))):=And.intro @o6 (And.intro @tI (And.intro @look_nil (And.intro @cN (And.intro @mN (And.intro @kV (And.intro @sF (And.intro @yi (And.intro @sG (And.intro @o7 (And.intro @yj (And.intro @Ih (And.intro @bz (And.intro @Bool.or_false (And.intro @Bool.false_eq_true (And.intro @cz (And.intro @dz (And.intro @ez (@fz))))))))))))))))))
open Go.RowKit (Below)
open Go.ChangeShapes Go.WideShapes Go.ChangeAt Go.Deep
theorem Grown.below {w w':World}(h:Grown w w'):Below w.heap.size w w':=⟨h.out.os,h.out.tape,h.out.output,h.size,h.same⟩
def pY (w:World)(xs:lA)(cs:lV):Prop:=cs.length=xs.length/\∀i (h:i<xs.length),leaf xs[i]/\Rd w (oC w) xs[i] (cs.getD i uD)
def Pp (P:pR)(t:TypeId){α:Type}(ok:α->Prop)(f:α->lA):Prop:=
 ∀(H:Type) (enc:TypeId × Value->H) (w:World) (base:Nat) (held:Bool) (fuel:Nat) (cs:lV) (x:DataW H × List MemPlace),
  DataW.trod enc P w base (λ_=>true) held fuel t cs=some x->∃a,ok a/\pY w (f a) cs
theorem pY.one {w:World}{x:AV}{v:Value}(hl:leaf x)(h:Rd w (oC w) x v):pY w [x] [v]:=⟨rfl,λi hi=>by
 have:i=0:=by simpa using hi
 subst this;exact ⟨hl,h⟩⟩
theorem Pp.u8 {P:pR}{t:TypeId}(ht:P.underlying t=some (.int .u8)):Pp P t (λ_=>True) (λn:UInt8=>[.val (.int .u8 n.toNat)]):=λH enc w base held fuel cs x h=>by
 obtain ⟨n,rfl,_,hw⟩:=DataW.trod_int ht h;have hb:=bounds_u8 hw;refine ⟨UInt8.ofNat n.toNat,trivial,.one trivial ?_⟩;have:((UInt8.ofNat n.toNat).toNat:Int)=n:=by simp;omega
 rw[this];exact .val _ rfl
theorem J4 {α:Type}(g:Nat->Option α):∀(len:Nat),(∀i,i<len->∃b,g i=some b)->∃xs:List α,xs.length=len/\∀i (hi:i<xs.length),g i=some xs[i]
 |0,_=>⟨[],rfl,λi hi=>absurd hi (q20 _)⟩
 |k+1,hg=>by
  obtain ⟨xs,h1,h2⟩:=J4 g k λi hi=>hg i (by omega);obtain ⟨b,hb⟩:=hg k (by omega);refine ⟨xs++[b],by simp[h1],λi hi=>?_⟩;by_cases hik:i<xs.length
  . rw[List.getElem_append_left hik];exact h2 i hik
  have:i=k:=by simp at hi;omega
  subst this;rw[List.getElem_append_right (by omega)];simp[h1,hb]
theorem BM (a:Addr)(k:Nat):(a.add k).block=a.block:=by unfold Addr.add;split<;>rfl
theorem J5 (a:Addr)(k:Nat):(a.add k).off=a.off+k:=by
 unfold Addr.add;split
 . rename_i h;rw[h];rfl
 rfl
theorem Fu {w:World}{a:Addr}{v:Value}(h:w.cell? a=some v):∃cs e fr,w.heap[a.block]? =some (.cells cs e fr)/\cs[a.off]? =some v:=by
 unfold World.cell? at h;split at h
 . split at h
   . cases h
   exact ⟨_,_,_,‹_›,h⟩
 cases h
def yk (ag:Bool)(xs:lA):AV:=if ag then .agg xs else xs.getD 0 .undef
theorem Pp.slice {P:pR}{t e:TypeId}{α:Type}{ok:α->Prop}{f:α->lA}(ag:Bool)(n:Nat)(ht:P.underlying t=some (.slice e))(hn:P.cellsOf e=n)(h0:0<n)(hag:ag=false->n=1)
 (hlen:∀a,(f a).length=n) (hd:Pp P e ok f):Pp P t (λxs:List α=>xs.length<=maxLen/\∀a∈xs,ok a) (λxs=>[.arr ⟨n,ag⟩ (xs.map λa=>yk ag (f a))]):=λH enc w base held fuel cs x h=>by
 rcases open_slice ht h with ⟨rfl,_⟩|⟨a,len,cap,m,n',D,Pl,rfl,hb,hl,hm,hmm,_,hel⟩
 . exact ⟨[],⟨Nat.zero_le _,by simp⟩,.one trivial (.nil _ _)⟩
 simp only[if_true] at hmm;rw[hn,hmm] at hel;clear hmm;by_cases hc:cap=0
 . subst hc;have:len=0:=(by omega);subst this;exact ⟨[],⟨Nat.zero_le _,by simp⟩,.one trivial (.nil _ _)⟩
 ·
  have cellAt:∀i,i<cap->∀j,j<n->∃v,w.cell? (a.add (i*n+j))=some v:=by intro i hi j hj;obtain ⟨cs',h1,_⟩:=hel i hi;obtain ⟨_,h2,h3⟩:=World.cells?_some h1;have:=h3 j hj;rw[add_add] at this;exact ⟨cs'[j]'(by omega),by rw[this];exact q7 (by omega)⟩
  obtain ⟨v00,h00⟩:=cellAt 0 (by omega) 0 h0;have hsp:a.spot=none:=by simpa [Addr.add] using World.cell?_spot h00
  obtain ⟨bcs,be,bfr,aD,Un⟩:=Fu h00;have aD:w.heap[a.block]? =some (.cells bcs be bfr):=by simpa [BM] using aD
  have Un:bcs[a.off]? =some v00:=by simpa [J5] using Un
  have cells:∀i,i<cap->∀j,j<n->∀v,w.cell? (a.add (i*n+j))=some v->bcs[a.off+(i*n+j)]? =some v:=by intro i hi j hj v hv;obtain ⟨cs2,e2,fr2,g1,g2⟩:=Fu hv;have g1:w.heap[a.block]? =some (.cells cs2 e2 fr2):=(by simpa [BM] using g1);rw[aD] at g1;cases g1;simpa [J5] using g2
  have size:∀i,i<cap->a.off+(i+1)*n<=bcs.size:=by intro i hi;obtain ⟨v,hv⟩:=cellAt i hi (n-1) (by omega);have:=cells i hi (n-1) (by omega) v hv;have:=(q1.1 this).1;rw[Nat.add_mul];omega
  obtain ⟨g,hg⟩:∃g:Nat->Option α,∀i,i<len->∃b,g i=some b/\ok b/\∃cs',w.cells? base (a.add (i*n)) n=some cs'/\pY w (f b) cs':=by refine choose_lt (p:=λi (o:Option α)=>∃b,o=some b/\ok b/\∃cs',w.cells? base (a.add (i*n)) n=some cs'/\pY w (f b) cs') λi hi=>?_;obtain ⟨cs',h1,h2⟩:=hel i (by omega);obtain ⟨b,h3,h4⟩:=hd H enc w base held n' cs' _ h2;exact ⟨some b,b,rfl,h3,cs',h1,h4⟩
  have hxs:∃xs:List α,xs.length=len/\∀i (hi:i<xs.length),g i=some xs[i]:=by exact J4 g len λi hi=>by obtain ⟨b,hb,_⟩:=hg i hi;exact ⟨b,hb⟩
  obtain ⟨xs,hxl,hxs⟩:=hxs;have Wf:∀i (hi:i<xs.length),ok xs[i]/\∃cs',w.cells? base (a.add (i*n)) n=some cs'/\pY w (f xs[i]) cs':=by intro i hi;obtain ⟨b,h1,h2,h3⟩:=hg i (by omega);rw[hxs i hi] at h1;cases h1;exact ⟨h2,h3⟩
  refine ⟨xs,⟨by omega,λb hb=>?_⟩,.one trivial ?_⟩
  . obtain ⟨i,hi,rfl⟩:=q10 hb;exact (Wf i hi).1
  have ea:a=⟨a.block,a.off,none⟩:=by cases a;simp at hsp;subst hsp;rfl
  have Uo:(xs.map λb=>yk ag (f b)).length=len:=by simp[hxl]
  rw[ea,←Uo];refine .arr ⟨n,ag⟩ _ a.block a.off cap bcs be bfr (q1.1 aD).1 aD (by omega) ?_ ?_ ?_
  . rw [Uo];show a.off+len*n<=bcs.size;by_cases h0l:len=0
    . subst h0l;have:=size 0 (by omega);omega
    have:=size (len-1) (by omega)
    rwa [show len-1+1=len by omega] at this
  . intro i hi;rw [List.getElem_map];cases ag with
    |true=>exact ⟨rfl,hlen _⟩
    |false=>
     have hi':i<xs.length:=(by simpa using hi);obtain ⟨_,cs',_,h2⟩:=Wf i hi';have h1:=hlen xs[i];have:=(h2.2 0 (by omega)).1;have e1:yk false (f xs[i])=(f xs[i])[0]'(by omega):=(by simp[yk,q6,q7 (show 0<(f xs[i]).length by omega)]);rw[e1];have hn1:=hag rfl;unfold fits;split<;>first|(rename_i hh;rw[hh] at this;exact this.elim)|exact ⟨rfl,hn1⟩
  intro i hi;have hi':i<xs.length:=by simpa using hi
  rw[List.getElem_map];obtain ⟨_,cs',h1,h2⟩:=Wf i hi';obtain ⟨_,h3,h4⟩:=World.cells?_some h1;have vN:∀j,j<n->bcs[a.off+(i*n+j)]? =cs'[j]? :=by intro j hj;have:=h4 j hj;rw[add_add] at this;rw[q7 (by omega)] at this ⊢;exact cells i (by omega) j hj _ this
  have hsz:=size i (by omega);cases ag with
  |true=>
   have e2:elemV bcs.toList (a.off+i*n) ⟨n,true⟩= .agg cs'.toArray:=by
    simp only[elemV,if_true];congr 2;apply List.ext_getElem?
    intro j;by_cases hj:j<n
    . rw[List.getElem?_take,if_pos hj,List.getElem?_drop,←vN j hj];simp[Nat.add_assoc]
    rw[List.getElem?_take,if_neg hj,q8 (by omega)]
   show Rd w (oC w) (yk true (f xs[i])) (elemV bcs.toList (a.off+i*n) ⟨n,true⟩);rw[e2];exact .agg _ _ (by simpa using h2.1) (λj hj=>(h2.2 j hj).1) (λj hj=>(h2.2 j hj).2)
  |false=>
   have hn1:=hag rfl;subst hn1;have hl1:=hlen xs[i];have e2:elemV bcs.toList (a.off+i*1) ⟨1,false⟩=cs'.getD 0 uD:=by simp only[elemV,q3,if_false,q6];have:=vN 0 (by omega);rw[Nat.add_zero] at this;rw[←this];simp
   show Rd w (oC w) (yk false (f xs[i])) (elemV bcs.toList (a.off+i*1) ⟨1,false⟩);rw[e2];have e1:yk false (f xs[i])=(f xs[i])[0]'(by omega):=(by simp[yk,q6,q7 (show 0<(f xs[i]).length by omega)]);rw[e1];exact (h2.2 0 (by omega)).2
inductive Vr (P:Program):List Field->Nat->{α:Type}->(α->Prop)->(α->List AV)->Prop
 |nil (o:Nat):Vr P [] o (λ_:Unit=>True) (λ_=>[])
 |cons {α β:Type} {f:Field} {r:List Field} {o n:Nat} {ok:α->Prop} {g:α->List AV} {ok':β->Prop} {g':β->List AV} (ho:f.offset=o) (hn:P.cellsOf f.type=n) (hl:∀a,(g a).length=n) (hd:Pp P f.type ok g) (hr:Vr P r (o+n) ok' g'):
   Vr P (f::r) o (λp:α × β=>ok p.1/\ok' p.2) (λp=>g p.1++g' p.2)
theorem Pp.arg {P:pR}{t:TypeId}{α:Type}{ok:α->Prop}{f:α->lA}(h:Pp P t ok f)(ag:Bool)(hf:∀a,if ag then True else (f a).length=1){H:Type}{enc:TypeId × Value->H}{w:World}{base:Nat}{held:Bool}{v:Value}{d:DataW H}{ps:List MemPlace}
 (ht:DataW.Trod enc P w base (λ_=>true) held t v d ps) (hv:if ag then ∃cs,v= .agg cs else v.cells= #[v]):∃a,ok a/\Rd w (oC w) (yk ag (f a)) v:=by
 obtain ⟨fuel,hx⟩:=ht;obtain ⟨a,h1,h2,h3⟩:=h H enc w base held fuel _ _ hx;refine ⟨a,h1,?_⟩;cases ag with
 |true=>
  obtain ⟨cs,rfl⟩:=hv;have e:(Value.agg cs).cells=cs:=rfl;rw[e] at h2 h3;exact .agg _ _ (by simpa using h2) (λi hi=>(h3 i hi).1) (λi hi=>(h3 i hi).2)
 |false=>
  have hl:(f a).length=1:=by simpa using hf a
  have hv:v.cells= #[v]:=hv;rw[hv] at h3;have:=(h3 0 (by omega)).2;have e1:yk false (f a)=(f a)[0]'(by omega):=by simp[yk,q6,q7 (show 0<(f a).length by omega)]
  rw[e1];exact this
theorem Fn.law {P:pR}{f:fI}{args:lA}{b:Bool}(h:Fn P f args true (· = .val (.bool b)))(W:World)(zv:KA W (oC W))(vs:aV)(hs:vs.size=args.length)
 (hr:∀i (h:i<args.length),Rd W (oC W) args[i] (vs.toList.getD i uD)):Calls P f vs W λe W'=>e= .returned (.bool b)/\Below W.heap.size W W':=by
 refine (h.2 W (oC W) vs (λ_ hb=>hb) zv hs hr).mono λe W' ⟨r,v,he,hx,hg,j9⟩=> ?_;subst hx;obtain ⟨fs,bc,_⟩:=j9;have hv:v= .bool b:=by
  cases bc with
  |rd _ _ h=>cases h with|val _ _=>rfl
 subst hv;exact ⟨he,hg.below⟩
end Go.Vc
namespace Go.Proofs.YtofpaabacebkkaaGreatDoor
open Go.Vc Go.ChangeShapes Go.WideShapes Go.ChangeAt Go.RowKit
theorem Ii {H:Type}{enc:TypeId × Value->H}{a:Assume}{C:Checked}{os:Os}{f:fI}{fn:Func}{s:ChangeSpec}{conds:List PathCond}{apart fresh handsOn again:Bool}{X:World->aV->Prop}
 (hX:∀(w w':World)(args:aV),w.heap=w'.heap->X w args->X w' args)
 (own:ownKnob C.prog.godebug=none) (started:os.Started) (noInit:C.prog.inits.idxOf? f=none) (hfn:C.prog.funcs[f]? =some fn)
 (witness:∃(w:World) (tape:Tape) (i:Input),w.os=os/\(w.forCall tape i).Shaped C.prog/\i.vars=[]/\Input.okWide C.prog (w.forCall tape i) .any w.heap.size f i∧
   ((s.pre enc C.prog fn conds apart (w.forCall tape i).memory i.args/\X (w.forCall tape i).memory i.args)/\sizedMet enc C.prog fn (OpenSpec.ofChange s) apart (w.forCall tape i).memory i.args)/\a.holds C.prog (lone (Frame.enter C.prog f i.args .normal) [] (w.forCall tape i)))
 (contract:∀(W:World) (base:Nat) (args:aV) (ds gs:List (DataW H)) (before:List MemPlace),
   (∀(j:Nat) t v,fn.params[j]? =some t->args[j]? =some v->Value.okWide C.prog W .any base t v)→
   DataW.Whole enc C.prog fn.params.toList s.vars apart W args.toList ds gs before→
   conds.all (PathCond.test C.prog ⟨fn.params.toList,ds,s.plain.varTypes C.prog,gs⟩)=true→
   (DataW.weightsEach C.prog (fn.params.toList++s.plain.varTypes C.prog) (ds++gs)).all (· <=reachBytes)=true->X W args->W.ShapedOpen C.prog→
   a.holds C.prog (lone (Frame.enter C.prog f args .normal) [] W)→
   Calls C.prog f args W λe W'=>∃v,e= .returned v/\s.post enc C.prog fn apart fresh handsOn again W args v W'):
 ReturnsInHanded a C os f .any (λw args=>(s.pre enc C.prog fn conds apart w args/\X w args)/\sizedMet enc C.prog fn (OpenSpec.ofChange s) apart w args) (s.post enc C.prog fn apart fresh handsOn again):=by
 refine returnsInHanded_of_calls own started noInit witness ?_;intro w tape i _ hsh _ hok dD Wg;obtain ⟨_,_,_,fn',YV,_,_,_,_,Tt⟩:=hok;have e:fn'=fn:=Option.some.inj (YV.symm.trans hfn);subst e;obtain ⟨⟨⟨ds,gs,before,hw,hc⟩,hx⟩,hz⟩:=dD;have hw':=DataW.Whole.of_heap (w':=w.forCall tape i) (by rfl) hw;refine (contract (w.forCall tape i) w.heap.size i.args ds gs before Tt hw' hc (hz.weights hw) (hX _ _ _ (by rfl) hx) hsh Wg).mono λe W' ⟨v,he,hp⟩=>?_;subst he;exact ChangeSpec.post_blind hp
theorem own:ownKnob Tryz.prog.godebug=none:=by kernel_rfl
theorem laidOut:laidOutB pG=true:=by kernel_rfl
theorem yl {P:pR}{W:World}{n:String}{g:Nat}{cs:aV}(hg:P.globalNamed n=some g)(h:W.var? P n=some cs):oC W g/\∃e fr,W.heap[g]? =some (.cells cs e fr):=by
 unfold World.var? at h;rw[hg] at h;simp only[Option.bind_some] at h;rcases h1:W.heap[g]? with _|o
 . rw[h1] at h;cases h
 rw[h1] at h;refine ⟨(q1.1 h1).1,?_⟩;cases o<;>simp at h;subst h;exact ⟨_,_,rfl⟩
theorem C3 {P:pR}{W:World}{g:Nat}{t:TypeId}{zero:aV}(h:W.ShapedOpen P)(hg:g<P.globals.size)
 (h0:((begin P (λ_ _=>0) default).world.heap[g]?).bind Obj.row? =some (zero,t)) (hz:zero.size=1)
 (hb:P.buildable t=true) (hc:P.cellTypes P.depth t=some [t]) (hu:P.underlying t=some (.int .i64)):oC W g/\∃cs e fr,W.heap[g]? =some (.cells cs e fr)/\Rr cs:=by
 obtain ⟨m,hm⟩:=cell_of_shapedOpen_int h hg h0 hz hb hc hu;obtain ⟨cs,hh,hs,_⟩:=h.1 g zero t hg h0;have hsz:cs.size=1:=hs.trans hz;refine ⟨(q1.1 hh).1,cs,_,_,hh,m,?_⟩;have h1:cs[0]? =some (.int .i64 m):=by simpa [World.cell?,hh] using hm
 obtain ⟨l⟩:=cs;match l,hsz,h1 with
 | [x],_,h1=>simp at h1;subst h1;rfl
def Pq:List (String × DataW Unit):=[("math/bits.deBruijn32tab",Rows.laid_math_bits_deBruijn32tab),("math/bits.deBruijn64tab",Rows.laid_math_bits_deBruijn64tab),("internal/strconv.uint64pow10",Rows.laid_internal_strconv_uint64pow10)]
theorem Pr {H:Type}:(Rows.laid_internal_strconv_uint64pow10:DataW H)=Lib.tabData .u64 ((List.range 20).map λi=>((10^i:Nat):Int)):=rfl
theorem SU {W:World} {r:List (String × DataW Unit)} (h:laidMet pG (("internal/strconv.uint64pow10",Rows.laid_internal_strconv_uint64pow10)::r) W):
 oC W 5/\∃cs e fr,W.heap[5]? =some (.cells cs e fr)/\Rs cs:=by
 rw[Pr] at h;have h1:=Lib.tabIs_of_head (g:=5) (by kernel_rfl) (by kernel_rfl) underlying232 underlying174 (by kernel_rfl) (by kernel_rfl) h;obtain ⟨a,e,fr,h2⟩:=yl (by kernel_rfl) h1;refine ⟨a,_,e,fr,h2,?_⟩;unfold Rs;rw[List.map_map];rfl
theorem Fv {W:World}{n:String}{g:Nat}{t:TypeId}{a:Option Addr}(hg:Tryz.prog.globalNamed n=some g)(h:W.var? pG n=some #[.iface t (.pointer a)]):
 oC W g/\∃cs e fr,W.heap[g]? =some (.cells cs e fr)/\NA cs:=by
 obtain ⟨a,e,fr,h2⟩:=yl hg h;exact ⟨a,_,e,fr,h2,_,_,rfl⟩
def laidAll:List (String × DataW Unit):=Pq++[("unicode/utf8.acceptRanges",Rows.laid_unicode_utf8_acceptRanges),("strconv.ErrRange",Rows.laid_strconv_ErrRange),("strconv.ErrSyntax",Rows.laid_strconv_ErrSyntax),("unicode/utf8.first",Rows.laid_unicode_utf8_first)]
theorem ym (os:Os)(args:aV):((World.laidAll pG os laidAll).forCall (λ_ _=>0) ⟨#[],args,[]⟩).Shaped pG:=
 World.shaped_of_ZipB (by kernel_rfl) (by kernel_rfl)
theorem Fw (os:Os)(args:aV):laidMetH pG laidAll ((World.laidAll pG os laidAll).forCall (λ_ _=>0) ⟨#[],args,[]⟩).memory:=by rw[MakeChecks.laidMetH_plain _ _ _ (by kernel_rfl)];exact laidMet_laidAll _ (by kernel_rfl) (by kernel_rfl)
theorem star: "*" ++ "errors.errorString" = "*errors.errorString" :=by decide
theorem Ps (u:TypeId) (h:Tryz.prog.typeName? 3 u=some "*errors.errorString"):u=241:=
 typeName_ptr_named (nm:= "errors.errorString") (by rw [star];kernel_rfl) (by kernel_rfl) (by decide) u (by rw [star];exact h)
theorem SV {W:World}(h:laidMetH pG laidAll W)(hs:W.ShapedOpen pG):KA W (oC W):=by
 rw [MakeChecks.laidMetH_plain _ _ _ (by kernel_rfl)] at h;have h1:laidMet pG (("internal/strconv.uint64pow10",Rows.laid_internal_strconv_uint64pow10)::_) W:=h.tail.tail;have h2:laidMet pG (("strconv.ErrRange",Rows.laid_strconv_ErrRange)::_) W:=h1.tail.tail;have h3:laidMet pG (("strconv.ErrSyntax",Rows.laid_strconv_ErrSyntax)::_) W:=h2.tail;obtain ⟨a1,s1,v1,_⟩:=laid_sentinel (g:=2) h2 (by kernel_rfl) (by kernel_rfl) underlying99 Ps underlying241 underlying243 rfl rfl underlying9 (by kernel_rfl) (by kernel_rfl);obtain ⟨a2,s2,v2,_⟩:=laid_sentinel (g:=1) h3 (by kernel_rfl) (by kernel_rfl) underlying99 Ps underlying241 underlying243 rfl rfl underlying9 (by kernel_rfl) (by kernel_rfl);intro g p hg;simp only [DZ,q11,Prod.mk.injEq,List.not_mem_nil,or_false] at hg;rcases hg with ⟨rfl,rfl⟩|⟨rfl,rfl⟩|⟨rfl,rfl⟩|⟨rfl,rfl⟩
 . exact C3 (zero:= #[.int .i64 0]) hs (oT (by kernel_rfl)) (by kernel_rfl) (by kernel_rfl) (by kernel_rfl) (by kernel_rfl) underlying3
 . exact SU h1
 . exact Fv (by kernel_rfl) v2
 exact Fv (by kernel_rfl) v1
end Go.Proofs.YtofpaabacebkkaaGreatDoor
namespace Go.Vc
def keys (m:Mem):lN:=m.map (·.1)
theorem keys_nil:keys []=[]:=rfl
theorem keys_cons (l:Nat)(b:bf)(r:Mem):keys ((l,b)::r)=l::keys r:=rfl
theorem C4 {m:Mem}{l:Nat}(h:ah m l≠none):l∈keys m:=by
 induction m with
 |nil=>exact absurd rfl h
 |cons p r ih=>
  obtain ⟨k,v⟩:=p;rw[aw] at h;by_cases e:k=l
  . simp[keys,e]
  rw[if_neg e] at h;exact q12 _ (ih h)
theorem C5 {m:Mem}{l:Nat}(h:l∈keys m):ah m l≠none:=by
 induction m with
 |nil=>cases h
 |cons p r ih=>
  obtain ⟨k,v⟩:=p;rw[aw];by_cases e:k=l
  . rw[if_pos e];exact λh=>by cases h
  rw[if_neg e];refine ih ?_;rcases q11.1 h with h|h
  . exact absurd h.symm e
  exact h
def Wu (L:lN)(m:Mem):Prop:=(∀l,ah m l≠none->l∈L)/\∀l v xs,ah m l=some (.box v xs)->∀p,p∈aq xs->p.1∈L
def o8 (L:lN)(m m':Mem):Prop:=(∀l,l∈L->ah m' l=ah m l)/\Wu L m'
def sH (L:lN)(φ:Nat->LS)(l:Nat):LS:=if l∈L then φ l else .dead
def tJ (L:lN)(fp:nN)(l:Nat):lN:=if l∈L then fp l else []
theorem iU {L:lN}{φ:Nat->LS}{l:Nat}(h:l∈L):sH L φ l=φ l:=if_pos h
theorem C6 {L:lN}{fp:nN}{l:Nat}(h:l∈L):tJ L fp l=fp l:=if_pos h
theorem fH {L:lN}{fp:nN}{l b:Nat}(h:b∈tJ L fp l):l∈L/\b∈fp l:=by
 unfold tJ at h;split at h
 . exact ⟨‹_›,h⟩
 cases h
section
variable {P:pR} {B:eC} {N:Nat} {φ:Nat->LS} {fp:nN} {S:nP} {ts:Env} {m:Mem} {a:Act} {w:World}
theorem RS.sub (h:RS B N φ fp S ts m a w){L:lN}{m':Mem}(hk:o8 L m m')(hb:∀l,ah B.m0 l≠none->l∈L):
 RS B 0 (sH L φ) (tJ L fp) S [] m' {tmps:= #[],defers:=[]} w:=by
 obtain ⟨k1,k2,k3⟩:=hk
 refine {tm:=λt=>by rw [look_nil];exact .rd _ _ (.undef _),tl:=λt l af hl=>(by rw [look_nil] at hl;cases hl),ca:=λl hl=> ?_,aG:=λl b hb=> ?_,bl:=λl v xs hb l' af hl=> ?_,
         hZ:=λl=>?_,fL:=λl l' b h1 h2=>h.fL l l' b (fH h1).2 (fH h2).2,bS:=λl b hb=>h.bS l b (fH hb).2,cu:=λl b hb=>h.cu l b (fH hb).2,
         sB:=h.sB,base:=h.base,out:=h.out,ky:=h.ky,kn:=λl af hl hk=>?_,fix:=λl af hl hk=>?_,size:=h.size,defers:=rfl,ly:=rfl,jx:=h.jx}
 . by_cases hm:l∈L
   . rw[iU hm,C6 hm];rw[k1 l hm] at hl;exact h.ca l hl
   unfold sH tJ;rw[if_neg hm,if_neg hm];exact ⟨rfl,rfl⟩
 . have hm:=k2 l (by rw[hb];exact λe=>by cases e);have hb2:=hb;rw[k1 l hm] at hb2;rw[C6 hm];refine (h.aG l b hb2).mono (λ_ _=>rfl) (λ_ h=>h) (λl b sh af cs e _ hb=>⟨cs,e,hb,rfl⟩) (λ_ _=>rfl) (iU hm) λv xs e l' af hl'=>?_;subst e;rw[iU (k3 l v xs hb _ hl')];exact LS.le_refl _ _
 . have hm:=k2 l (by rw[hb];exact λe=>by cases e);have hb2:=hb;rw[k1 l hm] at hb2;obtain ⟨k,h1,h2⟩:=h.bl l v xs hb2 l' af hl;exact ⟨k,(k1 l' (k3 l v xs hb _ hl)).trans h1,h2⟩
 . unfold tJ;split
   . exact h.hZ l
   exact q16
 . obtain ⟨k,h1,h2⟩:=h.kn l af hl hk;obtain ⟨k0,h3,_⟩:=hk;exact ⟨k,(k1 l (hb l (by rw[h3];exact λe=>by cases e))).trans h1,h2⟩
 obtain ⟨k0,h3,h4⟩:=hk;rw[iU (hb l (by rw[h3];exact λe=>by cases e))];exact h.fix l af hl ⟨k0,h3,h4⟩
end
def mO (w:World)(φ:Nat->LS)(fp:nN)(S:nP)(m0:Mem):eC:=⟨w,λl b=>b∈fp l,S,φ,m0⟩
def fN (P:pR)(f:fI)(m0:Mem)(xs:lA)(post:AV->Mem->Prop):Prop:=
 Enters P f/\∀(w:World) (φ:Nat->LS) (fp:nN) (S:nP) (vs:aV),vs.size=xs.length→
  RS (mO w φ fp S m0) vs.size φ fp S (bH 0 xs) m0 {tmps:=vs,defers:=[]} w→
  Calls P f vs w λe w'=>∃x v m' φ' fp' S',e= .returned v/\post x m'/\RV w' S' φ' x v/\ao x=[]/\Wu (keys m0) m'/\RS (mO w φ fp S m0) 0 φ' fp' S' [] m' {tmps:= #[],defers:=[]} w'
theorem fN.mono {P:pR}{f:fI}{m0:Mem}{xs:lA}{post post':AV->Mem->Prop}(h:fN P f m0 xs post)(hp:∀r m',post r m'->post' r m'):fN P f m0 xs post':=
 ⟨h.1,λw φ fp S vs h1 h2=>(h.2 w φ fp S vs h1 h2).mono λ_ _ ⟨x,v,m',φ',fp',S',g1,g2,g3⟩=>⟨x,v,m',φ',fp',S',g1,hp _ _ g2,g3⟩⟩
def Vs (P:pR)(rs:List ResultVar)(L:lN)(post:AV->Mem->Prop):de
 | .normal=>λts m=>aP P (λys=>aq ys=[]/\∃m',post (bG ys) m'/\o8 L m m') rs ts m []
 | .ret=>λts m=>aP P (λys=>aq ys=[]/\∃m',post (bG ys) m'/\o8 L m m') rs ts m []
 |_=>λ_ _=>False
theorem Pt (P:pR)(rs:List ResultVar)(L:lN)(post:AV->Mem->Prop)(ts:Env)(m:Mem):
 Vs P rs L post .ret ts m=aP P (λys=>aq ys=[]/\∃m',post (bG ys) m'/\o8 L m m') rs ts m []:=rfl
theorem ij {ys:lA}(h:aq ys=[]):ao (bG ys)=[]:=by
 match ys,h with
 | [],_=>simp[bG,ao,aq]
 | [y],h=>simpa [bG,aq] using h
 |y::y'::r,h=>rw[tC];simpa [ao] using h
theorem fN.nq {P:pR} {f:fI} {fn:Func} {c:Code} {m0:Mem} {xs:List AV} {post:AV→Mem→Prop} (hf:P.funcs[f]? =some fn) (hn:(fn.name== "runtime.NumGoroutine")=false) (hb:fn.body=some c)
 (hok:codeOk fn.ntmps c=true) (ha:xs.length<=fn.ntmps) (hv:vc P fn.ntmps c (bH 0 xs) m0 (Vs P fn.results.toList (keys m0) post)):fN P f m0 xs post:=by
 refine ⟨⟨fn,c,hf,hn,hb⟩,λw φ fp S vs hsz hR0=> ?_⟩;refine calls_of_wp hf hb ?_;have hRS:RS (mO w φ fp S m0) fn.ntmps φ fp S (bH 0 xs) m0 {tmps:=vs++q2 (fn.ntmps-vs.size) undef,defers:=[]} w:=by
  refine {hR0 with tm:=λt=>?_,defers:=rfl,ly:=by simp;omega};by_cases h:t<xs.length
  . have h1:=hR0.tm t;have:vs.getD t uD=(vs++q2 (fn.ntmps-vs.size) undef).getD t uD:=by
     have h2:t<vs.size:=(by omega);simp only[q0];rw[Array.getElem?_append_left h2]
    rw[←this];exact h1
  rw[bI];have:(if 0<=t then (xs[t-0]?).getD AV.undef else .undef)= .undef:=by simp[q8 (show xs.length<=t by omega)]
  rw[this];exact .rd _ _ (.undef _)
 have fW:∀a' w',ia (mO w φ fp S m0) fn.ntmps (λts m=>aP P (λys=>aq ys=[]/\∃m',post (bG ys) m'/\o8 (keys m0) m m') fn.results.toList ts m []) a' w'→
  a'.defers=[]/\∃v,(results fn a'.tmps).run P w'= .ok v w'/\∃x v' m' φ' fp' S',Ending.returned v= .returned v'/\post x m'/\RV w' S' φ' x v'/\ao x=[]/\Wu (keys m0) m'/\RS (mO w φ fp S m0) 0 φ' fp' S' [] m' {tmps:= #[],defers:=[]} w':=by
  rintro a' w' ⟨φ',fp',S',ts',m',h',hk⟩;refine ⟨h'.defers,?_⟩;obtain ⟨ys,us,⟨gZ,m2,gP,Up⟩,h2,h3,h4⟩:=cI h' fn.results.toList [] [] ⟨rfl,λi hi=>absurd hi (q20 _)⟩ (λi hi=>absurd hi (q20 _)) hk;obtain ⟨h3a,h3b⟩:=h3;simp only[q15] at h3a h3b;refine ⟨if h:us.toArray.size=1 then us.toArray[0] else .tuple us.toArray,?_,bG ys,_,m2,sH (keys m0) φ',tJ (keys m0) fp',S',rfl,gP,?_,ij gZ,Up.2,h'.sub Up λl hl=>C4 hl⟩
  . have hm:results fn a'.tmps=(do let vs ←fn.results.mapM (cW a'.tmps);pure (if h:vs.size=1 then vs[0] else .tuple vs)):=by
     unfold results;congr 1
    rw[hm,Sem.run_bind,Array.mapM_eq_mapM_toList];have:(List.toArray <$> fn.results.toList.mapM (cW a'.tmps):Sem aV).run P w'= .ok us.toArray w':=by rw[map_eq_pure_bind,Sem.run_bind,h2];rfl
    rw[this];rfl
  refine (mJ h3a h3b).mono (λ_ _=>rfl) (λ_ h=>h) (λl b sh af cs e _ hb=>⟨cs,e,hb,rfl⟩) λl af hl=>?_;rw[ij gZ] at hl;cases hl
 refine wp_mono (cB c _ _ _ hok hv _ _ _ _ _ _ hRS) ?_;intro e a' w' hq;cases e with
 |normal=>exact fW a' w' hq
 |ret=>exact fW a' w' hq
 |_=>obtain ⟨_,_,_,_,_,_,hh⟩:=hq;exact hh.elim
theorem fN.cT {P:pR}{f:fI}{fn:Func}{c:Code}{m0:Mem}{xs:lA}{post:AV->Mem->Prop}(N:Nat)(rs:List ResultVar)(hf:P.funcs[f]? =some fn)(hN:fn.ntmps=N:=by exact rfl)(hr:fn.results.toList=rs:=by exact rfl)
 (hn:(fn.name== "runtime.NumGoroutine")=false:=by exact rfl) (hb:fn.body=some c:=by exact rfl) (hok:codeOk N c=true:=by exact rfl) (ha:xs.length≤N:=by exact oT rfl) (hv:vc P N c (bH 0 xs) m0 (Vs P rs (keys m0) post)):fN P f m0 xs post:=by
 subst hN;subst hr;exact fN.nq hf hn hb hok ha hv
theorem yn {m' m:Mem}{l:Nat}{b:bf}(h:ah m' l=some b):ah (m'++m) l=some b:=by
 induction m' with
 |nil=>cases h
 |cons p r ih=>
  obtain ⟨k,v⟩:=p;rw[List.cons_append,aw];rw[aw] at h;by_cases e:k=l
  . rw[if_pos e] at h ⊢;exact h
  rw[if_neg e] at h ⊢;exact ih h
theorem Ij {m' m:Mem}{l:Nat}(h:ah m' l=none):ah (m'++m) l=ah m l:=by
 induction m' with
 |nil=>rfl
 |cons p r ih=>
  obtain ⟨k,v⟩:=p;rw[List.cons_append,aw];rw[aw] at h;by_cases e:k=l
  . rw[if_pos e] at h;cases h
  rw[if_neg e] at h ⊢;exact ih h
def o9 (P:pR)(f:fI)(xs:lA)(m:Mem)(k:AV->Mem->Prop):Prop:=
 Enters P f/\∀(B:eC) (N:Nat) (φ:Nat->LS) (fp:nN) (S:nP) (ts:Env) (a:Act) (w:World) (vs:aV),RS B N φ fp S ts m a w->vs.size=xs.length→
  (∀i (h:i<xs.length),RV w S φ xs[i] (vs.toList.getD i uD))->(∀i (h:i<xs.length) l af,(l,af)∈ao xs[i]->known m l af)→
  Calls P f vs w λe w'=>∃v,e= .returned v/\∃φ' fp' S' m' x,RS B N φ' fp' S' ts m' a w'/\RV w' S' φ' x v/\(∀l af,(l,af)∈ao x->known m' l af)/\k x m'∧
   ∀l,ah m l≠none->bE<=l->∀b,b∈fp' l->w.heap.size<=b\/b∈fp l
theorem o9.io {P:pR}{f:fI}{xs:lA}{m:Mem}{k:AV->Mem->Prop}(h:o9 P f xs m k):hU P f xs m k:=by intro B N φ fp S ts a w vs hRS hsz hx hxl;refine ⟨h.1,(h.2 B N φ fp S ts a w vs hRS hsz hx hxl).mono ?_⟩;rintro e w' ⟨v,rfl,φ',fp',S',m',x,g1,g2,g3,g4,_⟩;exact ⟨v,rfl,φ',fp',S',ts,m',x,g1,g2,g3,rfl,g4⟩
theorem o9.DV {P:pR}{f:fI}:∀(ρ:List (Nat × Nat)) {xs:lA} {m:Mem} {k:AV->Mem->Prop},o4 ρ m->o9 P f (mI ρ xs) (kT ρ m) (λx m'=>k (sw ρ x) (sv ρ m'))->o9 P f xs m k
 | [],xs,m,k,_,h=>by
   simp only[kT,mI] at h;rw[show xs.map (qg [])=xs from by rw[show qg []=id from rfl,List.map_id]] at h;exact h
 |(l,l')::r,xs,m,k,⟨⟨⟨hl,hio⟩,hh,hl'⟩,rJ⟩,hv=>by
  have hlen:(qC l l' xs).length=xs.length:=bZ l l' xs;have e9:mI r (qC l l' xs)=mI ((l,l')::r) xs:=by refine List.ext_getElem (by simp[mI,hlen]) λi h1 h2=>?_;simp only[mI,List.getElem_map];rw[e_ l l' xs i (by simpa [mI] using h2)];rfl
  have lx:=o9.DV r (k:=λx m'=>k (iR l l' x) (x7 l l' m')) (xs:=qC l l' xs) rJ (by rw [e9];exact hv);refine ⟨lx.1,λB N φ fp S ts a w vs h hsz hx hxl=> ?_⟩;have hm0:ah B.m0 l'=none:=by
   cases he:ah B.m0 l' with
   |none=>rfl
   |some k0=>
    obtain ⟨k2,h7,_⟩:=h.kn l' k0.af hio ⟨k0,he,q17 _⟩;rw[show ah m l'=none from hl'] at h7;cases h7
  have We:fp l'=[]:=(h.ca l' hl').2;have h1:=h.OL hl hm0 (λb hb=>by rw[We] at hb;cases hb);have hne:l≠l':=by unfold bE at*;omega
  have e1:rl l l' l=l':=by simp[rl]
  have e2:rl l l' l'=l:=by unfold rl;rw[if_neg (Ne.symm hne),if_pos rfl]
  have hlk:∀x,ah (x7 l l' m) x≠none↔ah m (rl l l' x)≠none:=λx=>by rw[cO];cases ah m (rl l l' x)<;>simp
  have:=lx.2 B N _ _ S _ a w vs h1 (by rw [hlen];exact hsz) (λi hi=>by
   have h':i<xs.length:=(by rw[hlen] at hi;exact hi)
   rw[e_ l l' xs i h' hi];exact (hx i h').DV l l') (λi hi l0 af hl0=>by
   have h':i<xs.length:=(by rw[hlen] at hi;exact hi);rw[e_ l l' xs i h' hi,jP] at hl0;obtain ⟨⟨k0,v0⟩,q1,q2⟩:=q14.1 hl0;simp only[Prod.mk.injEq] at q2;obtain ⟨rfl,rfl⟩:=q2;obtain ⟨b0,q3,q4⟩:=hxl i h' k0 v0 q1
   exact ⟨J0 l l' b0,by rw[cO,jO,q3];rfl,by rw[nr];exact q4⟩)
  refine this.mono ?_;rintro e w' ⟨v,rfl,φ',fp',S',m',x,g1,g2,g3,g4,g5⟩;have hb5:∀b,b∈fp' l'->B.w0.heap.size<=b:=by
   intro b hb';rcases g5 l' ((hlk l').2 (by rw[e2];exact hh)) hio b hb' with h5|h5
   . exact q18 h.size h5
   have h5:b∈fp (rl l l' l'):=h5;rw[e2] at h5;rcases (h.cu l b h5).2 with h6|⟨_,_,h6,_⟩
   . exact h6
   exact absurd hl (Nat.not_lt.2 h6)
  have g6:=g1.OL hl hm0 hb5;refine ⟨v,rfl,λk=>φ' (rl l l' k),λk=>fp' (rl l l' k),S',x7 l l' m',iR l l' x,?_,g2.DV l l',λl0 af hl0=>?_,g4,λl0 h0 h2 b hb'=>?_⟩
  . have ets:∀t,look (HN l l' (HN l l' ts)) t=look ts t:=λt=>by rw [iS,iS,CW]
    exact {g6 with tm:=λt=>by rw[←ets];exact g6.tm t,tl:=λt l af hl=>g6.tl t l af (by rw[ets];exact hl)}
  . rw[jP] at hl0;obtain ⟨⟨k0,v0⟩,q1,q2⟩:=q14.1 hl0;simp only[Prod.mk.injEq] at q2;obtain ⟨rfl,rfl⟩:=q2;obtain ⟨b0,q3,q4⟩:=g3 k0 v0 q1;exact ⟨J0 l l' b0,by rw[cO,jO,q3];rfl,by rw[nr];exact q4⟩
  have n1:l0≠l:=λe=>by subst e;exact absurd hl (Nat.not_lt.2 h2)
  have n2:l0≠l':=λe=>by subst e;exact h0 hl'
  have e3:rl l l' l0=l0:=by unfold rl;rw[if_neg n1,if_neg n2]
  have hb':b∈fp' (rl l l' l0):=hb';rw[e3] at hb';have:=g5 l0 ((hlk l0).2 (by rw[e3];exact h0)) h2 b hb';rcases this with h5|h5
  . exact .inl h5
  have h5:b∈fp (rl l l' l0):=h5;rw[e3] at h5;exact .inr h5
theorem fN.call {P:pR}{f:fI}{m0:Mem}{xs:lA}{post:AV->Mem->Prop}{m:Mem}{k:AV->Mem->Prop}(hH:fN P f m0 xs post)(hhi:∀l,l∈keys m0->bE<=l)(hm:∀l,l∈keys m0->ah m l=ah m0 l)
 (hok:Wu (keys m0) m0) (hxs:∀p,p∈aq xs->p.1∈keys m0) (hk:∀r m',post r m'->k r (m'++m)):o9 P f xs m k:=by
 refine ⟨hH.1,λB N φ fp S ts a w vs h hsz hx hxl=> ?_⟩;have hR0:RS (mO w (sH (keys m0) φ) (tJ (keys m0) fp) S m0) vs.size (sH (keys m0) φ) (tJ (keys m0) fp) S (bH 0 xs) m0 {tmps:=vs,defers:=[]} w:=by
  refine {tm:=λt=> ?_,tl:=λt l af hl=> ?_,ca:=λl hl=> ?_,aG:=λl b hb=> ?_,bl:=λl v xs hb l' af hl=> ?_,hZ:=λl=> ?_,fL:=λl l' b h1 h2=>h.fL l l' b (fH h1).2 (fH h2).2,
          bS:=λl b hb=>h.bS l b (fH hb).2,cu:=λl b hb=>⟨(h.cu l b (fH hb).2).1,.inr ⟨l,hb,hhi l (fH hb).1,.inl rfl⟩⟩,sB:=λb hb=>⟨(h.sB b hb).1,.inr hb⟩,base:=λb _ _=>rfl,out:=a7.refl _,ky:=jI.refl _,
          kn:=λ_ _ _ hk=>hk,fix:=λ_ _ _ _=>LS.le_refl _ _,size:=q17 _,defers:=rfl,ly:=rfl,jx:=h.jx}
  . rw [bI];by_cases ht:t<xs.length
    . have e:(if 0<=t then (xs[t-0]?).getD AV.undef else .undef)=xs[t]:=(by simp[ht]);rw[e];have e2:vs.toList.getD t uD=vs.getD t uD:=(by simp[q6,q0]);rw[←e2];refine (hx t ht).mono (λ_ _=>rfl) (λ_ h=>h) (λl b sh af cs e _ hb=>⟨cs,e,hb,rfl⟩) λl af hl=>?_;rw[iU (hxs _ (bq ht hl))];exact LS.le_refl _ _
    have e:(if 0<=t then (xs[t-0]?).getD AV.undef else .undef)= .undef:=(by simp[q8 (show xs.length<=t by omega)]);rw[e];exact .rd _ _ (.undef _)
  . rw [bI] at hl;by_cases ht:t<xs.length
    . have e:(if 0<=t then (xs[t-0]?).getD AV.undef else .undef)=xs[t]:=(by simp[ht]);rw[e] at hl;obtain ⟨b,h1,h2⟩:=hxl t ht l af hl;exact ⟨b,(hm l (hxs _ (bq ht hl))).symm.trans h1,h2⟩
    have e:(if 0<=t then (xs[t-0]?).getD AV.undef else .undef)= .undef:=(by simp[q8 (show xs.length<=t by omega)]);rw[e] at hl;cases hl
  . have hn:l∉keys m0:=λhh=>C5 hh hl;unfold sH tJ;rw[if_neg hn,if_neg hn];exact ⟨rfl,rfl⟩
  . have hl:l∈keys m0:=C4 (by rw[hb];exact λe=>by cases e);rw[C6 hl];refine (h.aG l b ((hm l hl).trans hb)).mono (λ_ _=>rfl) (λ_ h=>h) (λl b sh af cs e _ hb=>⟨cs,e,hb,rfl⟩) (λ_ _=>rfl) (iU hl) λv xs e l' af hl'=>?_;subst e;rw[iU (hok.2 l v xs hb _ hl')];exact LS.le_refl _ _
  . have hl0:l∈keys m0:=C4 (by rw[hb];exact λe=>by cases e);obtain ⟨b,h1,h2⟩:=h.bl l v xs ((hm l hl0).trans hb) l' af hl;exact ⟨b,(hm l' (hok.2 l v xs hb _ hl)).symm.trans h1,h2⟩
  unfold tJ;split
  . exact h.hZ l
  exact q16
 refine (hH.2 w _ _ S vs hsz hR0).mono ?_;rintro e w' ⟨x,v,m',φ',fp',S',rfl,gP,hrv,gZ,XJ,hR⟩;have i_:∀b:Nat,b<w.heap.size->(∀l,l∈keys m0->b∉fp l)->w'.heap[b]? =w.heap[b]? :=λb hb hn=>hR.base b hb λl hb'=>hn l (fH hb').1 (fH hb').2;have lu:∀b,S b->w'.heap[b]? =w.heap[b]? :=λb hb=>i_ b (h.sB b hb).1 λl _ hb'=>h.bS _ b hb' hb;have hz:fX φ w w':=λl b sh af cs e _ hb=>hR.ky b cs e hb;have hST:∀b,S' b->S b\/(S' b/\w.heap.size<=b):=λb hb=>by
  rcases (hR.sB b hb).2 with hh|hh
  . exact .inr ⟨hb,hh⟩
  exact .inl hh
 have kno:∀l af,l∈keys m0->known m l af->known m0 l af:=λl af hl ⟨b,h1,h2⟩=>⟨b,(hm l hl).symm.trans h1,h2⟩;have inm':∀l,l∈keys m0->∃b,ah m' l=some b:=by
  intro l hl;cases hb:ah m0 l with
  |none=>exact absurd hb (C5 hl)
  |some b=>
   obtain ⟨b',h1,_⟩:=hR.kn l b.af (hhi l hl) ⟨b,hb,q17 _⟩;exact ⟨b',h1⟩
 have lkL:∀l,l∈keys m0->ah (m'++m) l=ah m' l:=λl hl=>by obtain ⟨b,hb⟩:=inm' l hl;rw[hb];exact yn hb
 have lkR:∀l,l∉keys m0->ah (m'++m) l=ah m l:=λl hl=>Ij (by
  cases hb:ah m' l with
  |none=>rfl
  |some b=>exact absurd (XJ.1 l (by rw[hb];exact λe=>by cases e)) hl)
 have hkn:∀l af,known m l af->known (m'++m) l af:=by
  intro l af hk;by_cases hl:l∈keys m0
  . obtain ⟨b,h1,h2⟩:=hR.kn l af (hhi l hl) (kno l af hl hk);exact ⟨b,(lkL l hl).trans h1,h2⟩
  obtain ⟨b,h1,h2⟩:=hk;exact ⟨b,(lkR l hl).trans h1,h2⟩
 let φ2:Nat->LS:=λl=>if l∈keys m0 then φ' l else φ l
 let fp2:Nat->lN:=λl=>if l∈keys m0 then fp' l else fp l
 have φi:∀l,l∈keys m0->φ2 l=φ' l:=λl hl=>if_pos hl;have φo:∀l,l∉keys m0->φ2 l=φ l:=λl hl=>if_neg hl;have fi:∀l,l∈keys m0->fp2 l=fp' l:=λl hl=>if_pos hl;have fo:∀l,l∉keys m0->fp2 l=fp l:=λl hl=>if_neg hl;have hle:∀l af,known m l af->LS.le (φ2 l) (φ l) af:=by
  intro l af hk;by_cases hl:l∈keys m0
  . have:=hR.fix l af (hhi l hl) (kno l af hl hk);have this:LS.le (φ' l) (sH (keys m0) φ l) af:=this;rw[iU hl] at this;rw[φi l hl];exact this
  rw[φo l hl];exact LS.le_refl _ _
 have fpnew:∀l,l∈keys m0->∀b,b∈fp' l->b<w'.heap.size/\(w.heap.size<=b\/b∈fp l):=by intro l hl b hb;have:=hR.cu l b hb;refine ⟨this.1,this.2.imp id ?_⟩;rintro ⟨l',hb2,_,hl3⟩;have hl3:l'=l:=hl3.resolve_right λe=>C5 hl e;subst hl3;have hb2:b∈tJ (keys m0) fp l':=hb2;exact (fH hb2).2
 have ZI:∀l,ah m' l=none->fp' l=[]:=λl hl=>(hR.ca l hl).2;have mixed:∀l,l∈keys m0->∀l' b,l'∉keys m0->b∈fp' l->b∈fp l'->False:=by
  intro l hl l' b hl' b1 b2;rcases (fpnew l hl b b1).2 with hh|hh
  . have:=(h.cu l' b b2).1;omega
  exact hl' (by rw[h.fL _ _ b b2 hh];exact hl)
 refine ⟨v,rfl,φ2,fp2,λb=>S b\/(S' b/\w.heap.size<=b),m'++m,x,?_,?_,λl af hl=>(by rw [gZ] at hl;cases hl),hk x m' gP,λl _ _ b hb=>(by
  by_cases hl:l∈keys m0
  . rw[fi l hl] at hb;exact (fpnew l hl b hb).2
  rw[fo l hl] at hb;exact .inr hb)⟩
 . refine {tm:=λt=>(h.tm t).mono lu (λb hb=>.inl hb) hz λl af hl=>hle l af (h.tl t l af hl),tl:=λt l af hl=>hkn l af (h.tl t l af hl),ca:=λl hl=> ?_,aG:=λl b hb=> ?_,
           bl:=λl v xs hb l' af hl=>?_,hZ:=λl=>?_,fL:=λl l' b h1 h2=>?_,bS:=λl b hb=>?_,cu:=λl b hb=>?_,sB:=λb hb=>?_,base:=λb hb hio=>?_,
           out:=h.out.trans hR.out,ky:=h.ky.trans hR.ky,kn:=λl af hl hk=>hkn l af (h.kn l af hl hk),fix:=λl af hl hk=>LS.le_trans (hle l af (h.kn l af hl hk)) (h.fix l af hl hk),size:=q18 h.size hR.size,defers:=h.defers,ly:=h.ly,
           jx:=h.jx.mono lu λb hb=>.inl hb}
   . by_cases hm1:l∈keys m0
     . obtain ⟨b,hb⟩:=inm' l hm1;rw[lkL l hm1,hb] at hl;cases hl
     rw[lkR l hm1] at hl;rw[φo l hm1,fo l hm1];exact h.ca l hl
   . by_cases hm1:l∈keys m0
     . rw[lkL l hm1] at hb;rw[fi l hm1];refine (hR.aG l b hb).mono (λ_ _=>rfl) hST (λl b sh af cs e _ hb=>⟨cs,e,hb,rfl⟩) (λ_ _=>rfl) (φi l hm1) λv xs e l' af hl'=>?_;subst e;rw[φi l' (XJ.2 l v xs hb _ hl')];exact LS.le_refl _ _
     rw[lkR l hm1] at hb;rw[fo l hm1];refine (h.aG l b hb).mono lu (λb hb=>.inl hb) hz (λc hc=>i_ c (h.cu l c hc).1 λl' hl' hc'=>hm1 (by rw[h.fL _ _ c hc hc'];exact hl')) (φo l hm1) λv xs e l' af hl'=>?_;subst e;exact hle l' af (h.bl l v xs hb l' af hl')
   . by_cases hm1:l∈keys m0
     . rw[lkL l hm1] at hb;obtain ⟨b,h1,h2⟩:=hR.bl l v xs hb l' af hl;exact ⟨b,yn h1,h2⟩
     rw[lkR l hm1] at hb;exact hkn l' af (h.bl l v xs hb l' af hl)
   . by_cases hm1:l∈keys m0
     . rw[fi l hm1];exact hR.hZ l
     rw[fo l hm1];exact h.hZ l
   . by_cases m1:l∈keys m0
     . rw [fi l m1] at h1;by_cases m2:l'∈keys m0
       . rw[fi l' m2] at h2;exact hR.fL _ _ b h1 h2
       rw[fo l' m2] at h2;exact (mixed l m1 l' b m2 h1 h2).elim
     rw[fo l m1] at h1;by_cases m2:l'∈keys m0
     . rw[fi l' m2] at h2;exact (mixed l' m2 l b m1 h2 h1).elim
     rw[fo l' m2] at h2;exact h.fL l l' b h1 h2
   . by_cases hm1:l∈keys m0
     . rw [fi l hm1] at hb;rintro (hs|hs)
       . rcases (fpnew l hm1 b hb).2 with hh|hh
         . have:=(h.sB b hs).1;omega
         exact h.bS _ b hh hs
       exact hR.bS _ b hb hs.1
     rw[fo l hm1] at hb;rintro (hs|hs)
     . exact h.bS l b hb hs
     have:=(h.cu l b hb).1;omega
   . by_cases hm1:l∈keys m0
     . rw [fi l hm1] at hb;have:=fpnew l hm1 b hb;refine ⟨this.1,?_⟩;rcases this.2 with hh|hh
       . exact .inl (q18 h.size hh)
       exact (h.cu _ b hh).2
     rw[fo l hm1] at hb;have:=h.cu l b hb;exact ⟨q19 this.1 hR.size,this.2⟩
   . rcases hb with hs|hs
     . have:=h.sB b hs;exact ⟨q19 this.1 hR.size,this.2⟩
     exact ⟨(hR.sB b hs.1).1,.inl (q18 h.size hs.2)⟩
   refine (i_ b (q19 hb h.size) λl hl hb'=>?_).trans (h.base b hb hio);rcases (h.cu _ b hb').2 with hh|hh
   . omega
   exact hio _ hh.choose_spec.1
 refine hrv.mono (λ_ _=>rfl) hST (λl b sh af cs e _ hb=>⟨cs,e,hb,rfl⟩) λl af hl=>?_;rw[gZ] at hl;cases hl
def ck (L:lN):List (Nat × Nat)->Prop
 | []=>True
 |p::r=>p.1∈L/\ck L r
theorem Pu (L:lN):ck L []=True:=rfl
theorem L8 (L:lN)(l v:Nat)(r:List (Nat × Nat)):ck L ((l,v)::r)=(l∈L/\ck L r):=rfl
theorem o_ {L:lN}:∀{r:List (Nat × Nat)},ck L r->∀p,p∈r->p.1∈L
 | [],_,p,h=>by cases h
 |_::_,h,p,hp=>by
  rcases q11.1 hp with e|hp
  . subst e;exact h.1
  exact o_ h.2 p hp
def X4 (L:lN)(b:bf):Prop:=match b with
 | .box _ xs=>ck L (aq xs)
 |_=>True
theorem SW (L:lN)(v:Nat)(xs:lA):X4 L (.box v xs)=ck L (aq xs):=rfl
theorem SX (L:lN)(v:Nat)(sh:Sh)(d:Bool)(xs:lA):X4 L (.row v sh d xs)=True:=rfl
def okB (L:lN):Mem->Prop
 | []=>True
 |(l,b)::r=>(l∈L/\X4 L b)/\okB L r
theorem SY (L:lN):okB L []=True:=rfl
theorem Pv (L:lN)(l:Nat)(b:bf)(r:Mem):okB L ((l,b)::r)=((l∈L/\X4 L b)/\okB L r):=rfl
theorem tL {L:lN}:∀{m:Mem},okB L m->Wu L m
 | [],_=>⟨λl h=>absurd rfl h,λl v xs h=>by cases h⟩
 |(l,b)::r,⟨⟨h1,h2⟩,h3⟩=>by
  obtain ⟨g1,g2⟩:=tL h3;refine ⟨λl' h=>?_,λl' v xs h=>?_⟩
  . rw [aw] at h;split at h
    . rename_i e;subst e;exact h1
    exact g1 l' h
  rw[aw] at h;split at h
  . injection h with h
    subst h;exact o_ h2
  exact g2 l' v xs h
def sI (m m':Mem):lN->Prop
 | []=>True
 |l::r=>ah m l=ah m' l/\sI m m' r
theorem L9 (m m':Mem):sI m m' []=True:=rfl
theorem Ik (m m':Mem)(l:Nat)(r:lN):sI m m' (l::r)=(ah m l=ah m' l/\sI m m' r):=rfl
theorem mP {m m':Mem}:∀{L:lN},sI m m' L->∀l,l∈L->ah m l=ah m' l
 | [],_,l,h=>by cases h
 |_::_,⟨h1,h2⟩,l,h=>by
  rcases q11.1 h with rfl|h
  . exact h1
  exact mP h2 l h
theorem aO {L:lN}{m m':Mem}(h1:sI m' m L)(h2:okB L m'):o8 L m m':=⟨mP h1,tL h2⟩
def Fx:lN->Prop
 | []=>True
 |l::r=>1000000000<=l/\Fx r
theorem Pw:Fx []=True:=rfl
theorem L_ (l:Nat)(r:lN):Fx (l::r)=(1000000000<=l/\Fx r):=rfl
theorem sJ:∀{L:lN},Fx L->∀l,l∈L->bE<=l
 | [],_,l,h=>by cases h
 |_::_,⟨h1,h2⟩,l,h=>by
  rcases q11.1 h with rfl|h
  . exact h1
  exact sJ h2 l h
theorem cU {P:pR}{f:fI}{m0:Mem}{xs xt:lA}{d:Nat}{post:AV->Mem->Prop}{m:Mem}{k:AV->Mem->Prop}{q:Pack k}(hH:fN P f m0 xs post)
 (hc:(Fx (keys m0)/\okB (keys m0) m0)/\sI m m0 (keys m0)/\ck (keys m0) (aq xs)) (hk:∀r m',post r m'->k r (m'++m)):eo P f d xs xt m k q:=
 .inl (fN.call hH (sJ hc.1.1) (mP hc.2.1) (tL hc.1.2) (o_ hc.2.2) hk).io
theorem jl (J:Nat){P:pR}{f:fI}{m0:Mem}{xs xs0 xt:lA}{d:Nat}{post:AV->Mem->Prop}{m:Mem}{k:AV->Mem->Prop}{q:Pack k}(hH:fN P f m0 xs0 post)
 (hr:o4 (e7 J [] m) m/\mI (e7 J [] m) xs=xs0)
 (hc:(Fx (keys m0)/\okB (keys m0) m0)/\sI (kT (e7 J [] m) m) m0 (keys m0)/\ck (keys m0) (aq xs0))
 (hk:∀r m',post r m'->k (sw (e7 J [] m) r) (sv (e7 J [] m) (m'++kT (e7 J [] m) m))):eo P f d xs xt m k q:=
 .inl (o9.DV (e7 J [] m) hr.1 (by rw[hr.2];exact fN.call hH (sJ hc.1.1) (mP hc.2.1) (tL hc.1.2) (o_ hc.2.2) hk)).io
attribute [go_sem] keys_nil keys_cons Pu L8 SW SX SY Pv L9 Ik Pw L_ Pt
end Go.Vc
namespace Go.Vc
section
variable {P:pR} {B:eC} {N:Nat} {φ:Nat->LS} {fp:nN} {S:nP} {ts:Env} {m:Mem} {a:Act} {w:World}
def vp (l v:Nat)(sh:Sh)(ys:lA):lA->lA->Prop
 | [],[]=>True
 |x::xs,t::r=>((∃i n,x= .ref l v i n/\i+n<=ys.length/\t= .arr sh ((ys.drop i).take n))\/(ao x=[]/\aF x=false/\t=x))/\vp l v sh ys xs r
 |_,_=>False
theorem kD {l v:Nat}{sh:Sh}{ys xs r:lA}(i n:Nat)(h:i+n<=ys.length)(hr:vp l v sh ys xs r):vp l v sh ys (.ref l v i n::xs) (.arr sh ((ys.drop i).take n)::r):=⟨.inl ⟨i,n,rfl,h,rfl⟩,hr⟩
theorem pa {l v:Nat}{sh:Sh}{ys xs r:lA}{x:AV}(h:ao x=[])(h2:aF x=false)(hr:vp l v sh ys xs r):vp l v sh ys (x::xs) (x::r):=⟨.inr ⟨h,h2,rfl⟩,hr⟩
theorem L' {l v:Nat}{sh:Sh}{ys:lA}:vp l v sh ys [] []:=trivial
theorem jn {P:pR}{f:fI}{d:Nat}{xs trs xt:lA}{m:Mem}{k:AV->Mem->Prop}{q:Pack k}{post:AV->Prop}(l v:Nat)(sh:Sh)(dp:Bool)(ys:lA)(hfn:Fn P f trs false post)(hl:l<bE)
 (hm:ah m l=some (.row v sh dp ys)) (hx:vp l v sh ys xs trs) (hk:∀r,post r->k r ((l,.gone v)::m)):eo P f d xs xt m k q:=by
 refine .inl λB N φ fp S ts a w vs h hsz hrv hxl=>⟨hfn.1,?_⟩;have hf:=h.X3 hl hm (v:=v) rfl
 have hlen:∀(xs trs:lA),vp l v sh ys xs trs->trs.length=xs.length/\∀i (h1:i<xs.length) (h2:i<trs.length),
  (∃j n,xs[i]= .ref l v j n/\j+n<=ys.length/\trs[i]= .arr sh ((ys.drop j).take n))\/(ao xs[i]=[]/\aF xs[i]=false/\trs[i]=xs[i]):=by
  intro xs;induction xs with
  |nil=>intro trs hx;cases trs with
   |nil=>exact ⟨rfl,λi h1=>absurd h1 (q20 _)⟩
   |cons=>exact hx.elim
  |cons x xs ih=>intro trs hx;cases trs with
   |nil=>exact hx.elim
   |cons t r=>
    obtain ⟨g1,g2⟩:=ih r hx.2;refine ⟨by simp[g1],λi h1 h2=>?_⟩;cases i with
    |zero=>exact hx.1
    |succ i=>exact g2 i (by simpa using h1) (by simpa using h2)
 obtain ⟨hlen,YW⟩:=hlen xs trs hx;refine (hfn.2 w (λb=>S b\/b∈fp l) vs (λb hb=>(hf.sB b hb).1) hf.jx (hsz.trans hlen.symm) λi hi=>?_).mono ?_
 . have hi2:i<xs.length:=(by omega);rcases YW i hi2 hi with ⟨j,n,e1,e2,e3⟩|⟨e1,e2,e3⟩
   . rw[e3];have:=hrv i hi2;rw[e1] at this;exact CO h hl hm e2 this
   rw[e3];exact (cR (hrv i hi2) e1).mono (λ_ _=>rfl) λ_ h=>.inl h
 rintro e w' ⟨r,v',rfl,hr,hg,j9⟩;simp only[iN,q3,if_false] at j9;have hRS:=(hf.grown hg).hold (λb=>w.heap.size<=b/\b<w'.heap.size) (λb hb=>⟨hb.2,q18 hf.size hb.1,λk hk=>by have:=(hf.cu k b hk).1;omega⟩);exact ⟨v',rfl,_,_,_,ts,_,r,hRS,.rd _ _ j9,λk af hk=>(by rw[fY j9] at hk;cases hk),rfl,hk r hr⟩
def Il (P:pR)(rs:List ResultVar)(post:AV->Prop):de
 | .normal=>λts m=>aP P (λxs=>iO (λys _=>aq ys=[]/\post (bG ys)) [] m xs) rs ts m []
 | .ret=>λts m=>aP P (λxs=>iO (λys _=>aq ys=[]/\post (bG ys)) [] m xs) rs ts m []
 |_=>λ_ _=>False
theorem Px (P:pR)(rs:List ResultVar)(post:AV->Prop)(ts:Env)(m:Mem):Il P rs post .ret ts m=aP P (λxs=>iO (λys _=>aq ys=[]/\post (bG ys)) [] m xs) rs ts m []:=rfl
theorem Fn.SZ {P:pR} {f:fI} {fn:Func} {c:Code} {args:List AV} {post:AV→Prop} (hf:P.funcs[f]? =some fn) (hn:(fn.name== "runtime.NumGoroutine")=false) (hb:fn.body=some c)
 (hok:codeOk fn.ntmps c=true) (ha:args.length<=fn.ntmps) (hv:vc P fn.ntmps c (bH 0 args) [] (Il P fn.results.toList post)):Fn P f args false post:=by
 refine ⟨⟨fn,c,hf,hn,hb⟩,λw S vs hS zv hsz hrd=> ?_⟩;refine calls_of_wp hf hb ?_;have hRS:RS ⟨w,λ_ _=>False,S,λ_=>.dead,[]⟩ fn.ntmps (λ_=>.dead) (λ_=>[]) S (bH 0 args) [] {tmps:=vs++q2 (fn.ntmps-vs.size) undef,defers:=[]} w:=by
  have l7:∀t,(look (bH 0 args) t= .undef\/∃h:t<args.length,look (bH 0 args) t=args[t]):=by
   intro t;rw[bI];by_cases h:t<args.length
   . exact .inr ⟨h,by simp[h]⟩
   exact .inl (by simp[h])
  refine {tm:=λt=> ?_,tl:=λt l af hl=> ?_,ca:=λ_ _=>⟨rfl,rfl⟩,aG:=λl k hk=>(by cases hk),bl:=λl v xs hk=>(by cases hk),hZ:=λ_=>q16,
          fL:=λ_ _ _ h=>(by cases h),bS:=λ_ _ h=>(by cases h),cu:=λ_ _ h=>(by cases h),sB:=λb hb=>⟨hS b hb,.inr hb⟩,base:=λb hb _=>rfl,out:=a7.refl _,ky:=jI.refl _,kn:=λ_ _ _ hk=>hk,fix:=λ_ _ _ _=>LS.le_refl _ _,
          size:=q17 _,defers:=rfl,ly:=by simp;omega,jx:=zv}
  . rcases l7 t with e|⟨h,e⟩
    . rw[e];exact .rd _ _ (.undef _)
    rw[e];have h1:=hrd t h;have:vs.toList.getD t uD=(vs++q2 (fn.ntmps-vs.size) undef).getD t uD:=by have h2:t<vs.size:=(by omega);simp only[q0,q6,Array.getElem?_toList];rw[Array.getElem?_append_left h2]
    rw[←this];exact .rd _ _ h1
  rcases l7 t with e|⟨h,e⟩
  . rw[e] at hl;cases hl
  rw[e,fY (hrd t h)] at hl;cases hl
 have fW:∀a' w',ia ⟨w,λ_ _=>False,S,λ_=>.dead,[]⟩ fn.ntmps (λts m=>aP P (λxs=>iO (λys _=>aq ys=[]/\post (bG ys)) [] m xs) fn.results.toList ts m []) a' w'→
  a'.defers=[]/\∃v,(results fn a'.tmps).run P w'= .ok v w'/\∃r v',Ending.returned v= .returned v'/\post r/\Grown w w'/\iN w w' S false r v':=by
  rintro a' w' ⟨DT,fp0,S0,ts',m0,h0,hk⟩;refine ⟨h0.defers,?_⟩;obtain ⟨ys0,us,h1,h2,h3,h4⟩:=cI h0 fn.results.toList [] [] ⟨rfl,λi hi=>absurd hi (q20 _)⟩ (λi hi=>absurd hi (q20 _)) hk;obtain ⟨φ',fp',S',m',ys,hgv,h3,gZ,gP⟩:=pM ys0 us [] [] h0 (by simpa using h3) ⟨rfl,λi hi=>absurd hi (q20 _)⟩ h1;have h':=hgv.rs;obtain ⟨h3a,h3b⟩:=h3;simp only[q15] at h3a h3b;refine ⟨if h:us.toArray.size=1 then us.toArray[0] else .tuple us.toArray,?_,bG ys,_,rfl,gP,⟨h'.size,λb hb=>h'.base b hb (λ_ h=>h),h'.out⟩,?_⟩
  . have hm:results fn a'.tmps=(do let vs ←fn.results.mapM (cW a'.tmps);pure (if h:vs.size=1 then vs[0] else .tuple vs)):=by
     unfold results;congr 1
    rw[hm,Sem.run_bind,Array.mapM_eq_mapM_toList];have:(List.toArray <$> fn.results.toList.mapM (cW a'.tmps):Sem aV).run P w'= .ok us.toArray w':=by rw[map_eq_pure_bind,Sem.run_bind,h2];rfl
    rw[this];rfl
  show Rd w' _ _ _;refine (cR (mJ h3a h3b) (ij gZ)).mono (λ_ _=>rfl) λb hb=>?_;rcases (h'.sB b hb).2 with hh|hh
  . exact .inr ⟨hh,(h'.sB b hb).1⟩
  exact .inl hh
 refine wp_mono (cB c _ _ _ hok hv _ _ _ _ _ _ hRS) ?_;intro e a' w' hq;cases e with
 |normal=>exact fW a' w' hq
 |ret=>exact fW a' w' hq
 |_=>obtain ⟨_,_,_,_,_,_,hh⟩:=hq;exact hh.elim
theorem Fn.bP {P:pR} {f:fI} {fn:Func} {c:Code} {args:List AV} {post:AV→Prop} (N:Nat) (rs:List ResultVar) (hf:P.funcs[f]? =some fn) (hN:fn.ntmps=N:=by exact rfl) (hr:fn.results.toList=rs:=by exact rfl) (hn:(fn.name== "runtime.NumGoroutine")=false:=by exact rfl)
 (hb:fn.body=some c:=by exact rfl) (hok:codeOk N c=true:=by exact rfl) (ha:args.length<=N:=by exact oT rfl) (hv:vc P N c (bH 0 args) [] (Il P rs post)):Fn P f args false post:=by
 subst hN;subst hr;exact Fn.SZ hf hn hb hok ha hv
attribute [go_sem] Px Ex Ey AH xg
def Ue:lA->AV
 | [x]=>.bo ⟨1,false⟩ [x] 0 0
 |xs=>.bo ⟨xs.length,true⟩ [.agg xs] 0 0
def BN (m:Mem):lA->lA->Prop
 | [],[]=>True
 | .ptr l v 0 0::r,y::ys=>(∃xs,ah m l=some (.box v xs)/\aq xs=[]/\(∀x,x∈xs->fits ⟨1,false⟩ x)/\xs≠[]/\y=Ue xs)/\BN m r ys
 |_,_=>False
def Im (P:pR)(rs:List ResultVar)(g:fI)(ys:lA):de
 | .normal=>λts m=>aP P (λxs=>∃ps,xs=[.cn g ps]/\BN m ps ys) rs ts m []
 | .ret=>λts m=>aP P (λxs=>∃ps,xs=[.cn g ps]/\BN m ps ys) rs ts m []
 |_=>λ_ _=>False
theorem Io (P:pR)(rs:List ResultVar)(g:fI)(ys:lA)(ts:Env)(m:Mem):Im P rs g ys .ret ts m=aP P (λxs=>∃ps,xs=[.cn g ps]/\BN m ps ys) rs ts m []:=rfl
attribute [go_sem] Io
theorem S4 (h:RS B N φ fp S ts m a w){l v:Nat}{xs:lA}{u:Value}(hb:ah m l=some (.box v xs))(hl:aq xs=[])(hf:∀x,x∈xs->fits ⟨1,false⟩ x)(hne:xs≠[])(hu:RV w S φ (.ptr l v 0 0) u):
 Rd w (λb=>S b\/∃l,b∈fp l) (Ue xs) u:=by
 obtain ⟨b,cs,e,sh,h1,h2,h3,h4,h5,h6⟩:=h.aG l _ hb;have hp:=j0 hu b sh h1;rw[Nat.zero_mul,q21] at hp;subst hp;have hbS:S b\/∃l,b∈fp l:=.inr ⟨l,by rw[h2];simp⟩;have hrd:∀i (hi:i<xs.length),Rd w (λb=>S b\/∃l,b∈fp l) xs[i] (cs.toList.getD i uD):=λi hi=>(cR (h6 i hi) (bO hl i hi)).mono (λ_ _=>rfl) λ_ h=>.inl h;match xs,hne,hf,h4,h5,hrd with
 | [x],_,hf,h4,h5,hrd=>
   refine .bo ⟨1,false⟩ [x] 0 0 b 0 cs _ _ hbS h3 (by simpa using h4) (λi hi=>hf _ (List.getElem_mem hi)) λi hi=>?_;have:i=0:=(by simp at hi;omega);subst this;simpa [elemV] using hrd 0 (by simp)
 |x::y::r,_,hf,h4,h5,hrd=>
  have:=Rd.bo (w:=w) (S:=λb=>S b\/∃l,b∈fp l) ⟨(x::y::r).length,true⟩ [.agg (x::y::r)] 0 0 b 0 cs _ _ hbS h3 (by simpa using h4) (λi hi=>by
   have:i=0:=(by simp at hi;omega);subst this
   exact ⟨rfl,rfl⟩) (λi hi=>by
   have:i=0:=(by simp at hi;omega);subst this;simp only[elemV,if_true,Nat.zero_mul,q21,List.drop_zero,List.getElem_cons_zero];refine .agg _ _ (by simp at h4 ⊢;omega) h5 λi hi=>?_;have:=hrd i hi;rw[q6] at this ⊢;rw[List.toList_toArray,List.getElem?_take,if_pos hi]
   exact this)
  rw[Nat.zero_mul] at this;exact this
theorem J6 (h:RS B N φ fp S ts m a w):∀(ps ys:lA) (us:lV),us.length=ps.length->(∀i (hi:i<ps.length),RV w S φ ps[i] (us.getD i uD))->BN m ps ys->ys.length=ps.length/\∀i (hi:i<ys.length),Rd w (λb=>S b\/∃l,b∈fp l) ys[i] (us.getD i uD)
 | [],[],us,hl,_,_=>⟨rfl,λi hi=>absurd hi (q20 _)⟩
 | .ptr l v 0 0::r,y::ys,[],hl,_,_=>absurd hl (by simp)
 | .ptr l v 0 0::r,y::ys,u::us,hl,hp,hk=>by
   obtain ⟨⟨xs,h1,h2,h3,h4,rfl⟩,hk⟩:=hk;obtain ⟨g1,g2⟩:=J6 h r ys us (by simpa using hl) (λi hi=>by have:=hp (i+1) (by simpa using hi);rwa [List.getElem_cons_succ,List.getD_cons_succ] at this) hk;refine ⟨by simp[g1],λi hi=>?_⟩;cases i with
   |zero=>exact S4 h h1 h2 h3 h4 (hp 0 (by simp))
   |succ i=>
    rw[List.getElem_cons_succ,List.getD_cons_succ];exact g2 i (by simpa using hi)
end
theorem Fn.Ma {P:pR} {f:fI} {fn:Func} {c:Code} {args:List AV} {g:fI} {ys:List AV} (hf:P.funcs[f]? =some fn) (hn:(fn.name== "runtime.NumGoroutine")=false) (hb:fn.body=some c)
 (hok:codeOk fn.ntmps c=true) (ha:args.length<=fn.ntmps) (hv:vc P fn.ntmps c (bH 0 args) [] (Im P fn.results.toList g ys)):Fn P f args false (λr=>r= .cn g ys):=by
 refine ⟨⟨fn,c,hf,hn,hb⟩,λw S vs hS zv hsz hrd=> ?_⟩;refine calls_of_wp hf hb ?_;have hRS:RS ⟨w,λ_ _=>False,S,λ_=>.dead,[]⟩ fn.ntmps (λ_=>.dead) (λ_=>[]) S (bH 0 args) [] {tmps:=vs++q2 (fn.ntmps-vs.size) undef,defers:=[]} w:=by
  have l7:∀t,(look (bH 0 args) t= .undef\/∃h:t<args.length,look (bH 0 args) t=args[t]):=by
   intro t;rw[bI];by_cases h:t<args.length
   . exact .inr ⟨h,by simp[h]⟩
   exact .inl (by simp[h])
  refine {tm:=λt=> ?_,tl:=λt l af hl=> ?_,ca:=λ_ _=>⟨rfl,rfl⟩,aG:=λl k hk=>(by cases hk),bl:=λl v xs hk=>(by cases hk),hZ:=λ_=>q16,
          fL:=λ_ _ _ h=>(by cases h),bS:=λ_ _ h=>(by cases h),cu:=λ_ _ h=>(by cases h),sB:=λb hb=>⟨hS b hb,.inr hb⟩,base:=λb hb _=>rfl,out:=a7.refl _,ky:=jI.refl _,kn:=λ_ _ _ hk=>hk,fix:=λ_ _ _ _=>LS.le_refl _ _,
          size:=q17 _,defers:=rfl,ly:=by simp;omega,jx:=zv}
  . rcases l7 t with e|⟨h,e⟩
    . rw[e];exact .rd _ _ (.undef _)
    rw[e];have h1:=hrd t h;have:vs.toList.getD t uD=(vs++q2 (fn.ntmps-vs.size) undef).getD t uD:=by have h2:t<vs.size:=(by omega);simp only[q0,q6,Array.getElem?_toList];rw[Array.getElem?_append_left h2]
    rw[←this];exact .rd _ _ h1
  rcases l7 t with e|⟨h,e⟩
  . rw[e] at hl;cases hl
  rw[e,fY (hrd t h)] at hl;cases hl
 have fW:∀a' w',ia ⟨w,λ_ _=>False,S,λ_=>.dead,[]⟩ fn.ntmps (λts m=>aP P (λxs=>∃ps,xs=[.cn g ps]/\BN m ps ys) fn.results.toList ts m []) a' w'→
  a'.defers=[]/\∃v,(results fn a'.tmps).run P w'= .ok v w'/\∃r v',Ending.returned v= .returned v'/\r=AV.cn g ys/\Grown w w'/\iN w w' S false r v':=by
  rintro a' w' ⟨DT,fp0,S0,ts',m0,h1,hk⟩;refine ⟨h1.defers,?_⟩;obtain ⟨zs,us,⟨ps,rfl,b_⟩,h2,h3,h4⟩:=cI h1 fn.results.toList [] [] ⟨rfl,λi hi=>absurd hi (q20 _)⟩ (λi hi=>absurd hi (q20 _)) hk;obtain ⟨h3a,h3b⟩:=h3;simp only[q15] at h3a h3b;obtain ⟨u,rfl⟩:∃u,us=[u]:=List.length_eq_one_iff.1 h3a;have hu:RV w' S0 DT (.cn g ps) u:=h3b 0 (by simp);refine ⟨u,?_,_,u,rfl,rfl,⟨h1.size,λb hb=>h1.base b hb (λ_ h=>h),h1.out⟩,?_⟩
  . have hm:results fn a'.tmps=(do let vs ←fn.results.mapM (cW a'.tmps);pure (if h:vs.size=1 then vs[0] else .tuple vs)):=by
     unfold results;congr 1
    rw[hm,Sem.run_bind,Array.mapM_eq_mapM_toList];have:(List.toArray <$> fn.results.toList.mapM (cW a'.tmps):Sem aV).run P w'= .ok #[u] w':=by rw[map_eq_pure_bind,Sem.run_bind,h2];rfl
    rw[this];rfl
  obtain ⟨cs,rfl,hcs,hcv⟩:∃cs:aV,u= .func (.func g) #[] cs/\cs.size=ps.length/\∀i (hi:i<ps.length),RV w' S0 DT ps[i] (cs.toList.getD i uD):=by
   cases hu with
   |rd _ _ h=>cases h with|cn _ _ cs q1 q2=>exact ⟨cs,rfl,q1,λi hi=>.rd _ _ (q2 i hi)⟩
   |cn _ _ cs q1 q2=>exact ⟨cs,rfl,q1,q2⟩
  obtain ⟨g1,g2⟩:=J6 h1 ps ys cs.toList (by simpa using hcs) hcv b_;show Rd _ _ _ _;refine .cn g ys cs (by omega) λi hi=>(g2 i hi).mono (λ_ _=>rfl) λb hb=>?_;rcases hb with hb|⟨l,hb⟩
  . rcases (h1.sB b hb).2 with hh|hh
    . exact .inr ⟨hh,(h1.sB b hb).1⟩
    exact .inl hh
  rcases (h1.cu l b hb).2 with hh|⟨_,hh,_⟩
  . exact .inr ⟨hh,(h1.cu l b hb).1⟩
  exact hh.elim
 refine wp_mono (cB c _ _ _ hok hv _ _ _ _ _ _ hRS) ?_;intro e a' w' hq;cases e with
 |normal=>exact fW a' w' hq
 |ret=>exact fW a' w' hq
 |_=>obtain ⟨_,_,_,_,_,_,hh⟩:=hq;exact hh.elim
theorem Fn.Py {P:pR} {f:fI} {fn:Func} {c:Code} {args:List AV} {g:fI} {ys:List AV} (N:Nat) (rs:List ResultVar) (hf:P.funcs[f]? =some fn) (hN:fn.ntmps=N:=by exact rfl) (hr:fn.results.toList=rs:=by exact rfl) (hn:(fn.name== "runtime.NumGoroutine")=false:=by exact rfl)
 (hb:fn.body=some c:=by exact rfl) (hok:codeOk N c=true:=by exact rfl) (ha:args.length<=N:=by exact oT rfl) (hv:vc P N c (bH 0 args) [] (Im P rs g ys)):Fn P f args false (λr=>r= .cn g ys):=by
 subst hN;subst hr;exact Fn.Ma hf hn hb hok ha hv
def qX (w w':World)(S:nP)(sh:Sh)(zs:lA)(v:Value):Prop:=
 (zs=[]/\∃ad,v= .slice ad 0 0)\/∃b cap,v= .slice (some ⟨b,0,none⟩) zs.length cap/\w.heap.size<=b/\Own w' (λc=>S c\/(w.heap.size<=c/\c<w'.heap.size/\c≠b)) (.arr sh zs) v [b]
def oh (P:pR)(f:fI)(args:lA)(sh:Sh)(zs:lA):Prop:=
 Enters P f/\∀(w:World) (S:nP) (vs:aV),(∀b,S b->b<w.heap.size)->KA w S->vs.size=args.length->(∀i (h:i<args.length),Rd w S args[i] (vs.toList.getD i uD))→
  Calls P f vs w λe w'=>∃v,e= .returned v/\Grown w w'/\qX w w' S sh zs v
def C7 (sh:Sh)(zs:lA)(m:Mem)(xs:lA):Prop:=
 (zs=[]/\xs=[.val (.slice none 0 0)])\/∃l v,xs=[.ref l v 0 zs.length]/\(ah m l=some (.row v sh false zs)\/(zs=[]/\ah m l=some (.row v sh true [])))
def Ip (P:pR)(rs:List ResultVar)(sh:Sh)(zs:lA):de
 | .normal=>λts m=>aP P (λxs=>C7 sh zs m xs) rs ts m []
 | .ret=>λts m=>aP P (λxs=>C7 sh zs m xs) rs ts m []
 |_=>λ_ _=>False
theorem Iq (P:pR)(rs:List ResultVar)(sh:Sh)(zs:lA)(ts:Env)(m:Mem):Ip P rs sh zs .ret ts m=aP P (λxs=>C7 sh zs m xs) rs ts m []:=rfl
attribute [go_sem] Iq
theorem row_one {w:World}{S:nP}{φ:Nat->LS}{l v:Nat}{sh:Sh}{deep:Bool}{fs:lN}{zs:lA}{u:Value}(h0:0<sh.sz)(hb:BR w S φ l fs (.row v sh deep zs))(hd:deep=true->zs=[])(hu:RV w S φ (.ref l v 0 zs.length) u):
 (zs=[]/\∃ad,u= .slice ad 0 0)\/∃b cap,u= .slice (some ⟨b,0,none⟩) zs.length cap/\fs=[b]/\Own w S (.arr sh zs) u [b]:=by
 have hr:=dt hu;rcases hb with ⟨h1,h2,h3⟩|⟨b,cap,hφ,hbm,hdp,bc⟩
 . exact .inl ⟨h2,(hr.2 h1).2⟩
 obtain ⟨ad,cp,rfl,hnc,hcp⟩:=hr.1 b sh hφ;obtain ⟨cs,e,fss,hgf,aD,hcs,b_,hmx,hff,hfl,hvv⟩:=gI bc hbm;rcases hcp with rfl|⟨rfl,cs',e',g1,g2⟩
 . have hz:zs=[]:=q5 (by omega);subst hz;exact .inl ⟨rfl,_,rfl⟩
 obtain rfl:=dc (aD.symm.trans g1);have hcc:cap=cp:=Nat.eq_of_mul_eq_mul_right h0 (by rw [←hcs,g2,q21]);subst hcc;have hfs:fs=[b]:=by
  cases deep with
  |false=>exact hdp rfl
  |true=>
   have hz:=hd rfl;subst hz;have:fss=[]:=q5 (by simpa using hfl);rw[hgf,this];rfl
 refine .inr ⟨b,cap,by rw [Nat.zero_mul],hfs,?_⟩;subst hfs;have ho:Own w S (.arr sh zs) (.slice (some ⟨b,0,none⟩) zs.length cap) [b]:=by
  cases deep with
  |false=>exact bc
  |true=>exact bc.mono (λ_ h=>h.elim) (λ_ h=>h.elim) λ_ _=>rfl
 simpa using ho
theorem oh.nq {P:pR} {f:fI} {fn:Func} {c:Code} {args:List AV} {sh:Sh} {zs:List AV} (h0:0<sh.sz) (hf:P.funcs[f]? =some fn) (hn:(fn.name== "runtime.NumGoroutine")=false) (hb:fn.body=some c)
 (hok:codeOk fn.ntmps c=true) (ha:args.length<=fn.ntmps) (hr1:fn.results.toList.length=1) (hv:vc P fn.ntmps c (bH 0 args) [] (Ip P fn.results.toList sh zs)):oh P f args sh zs:=by
 refine ⟨⟨fn,c,hf,hn,hb⟩,λw S vs hS zv hsz hrd=> ?_⟩;refine calls_of_wp hf hb ?_;have hRS:RS ⟨w,λ_ _=>False,S,λ_=>.dead,[]⟩ fn.ntmps (λ_=>.dead) (λ_=>[]) S (bH 0 args) [] {tmps:=vs++q2 (fn.ntmps-vs.size) undef,defers:=[]} w:=by
  have l7:∀t,(look (bH 0 args) t= .undef\/∃h:t<args.length,look (bH 0 args) t=args[t]):=by
   intro t;rw[bI];by_cases h:t<args.length
   . exact .inr ⟨h,by simp[h]⟩
   exact .inl (by simp[h])
  refine {tm:=λt=> ?_,tl:=λt l af hl=> ?_,ca:=λ_ _=>⟨rfl,rfl⟩,aG:=λl k hk=>(by cases hk),bl:=λl v xs hk=>(by cases hk),hZ:=λ_=>q16,
          fL:=λ_ _ _ h=>(by cases h),bS:=λ_ _ h=>(by cases h),cu:=λ_ _ h=>(by cases h),sB:=λb hb=>⟨hS b hb,.inr hb⟩,base:=λb hb _=>rfl,out:=a7.refl _,ky:=jI.refl _,kn:=λ_ _ _ hk=>hk,fix:=λ_ _ _ _=>LS.le_refl _ _,
          size:=q17 _,defers:=rfl,ly:=by simp;omega,jx:=zv}
  . rcases l7 t with e|⟨h,e⟩
    . rw[e];exact .rd _ _ (.undef _)
    rw[e];have h1:=hrd t h;have:vs.toList.getD t uD=(vs++q2 (fn.ntmps-vs.size) undef).getD t uD:=by have h2:t<vs.size:=(by omega);simp only[q0,q6,Array.getElem?_toList];rw[Array.getElem?_append_left h2]
    rw[←this];exact .rd _ _ h1
  rcases l7 t with e|⟨h,e⟩
  . rw[e] at hl;cases hl
  rw[e,fY (hrd t h)] at hl;cases hl
 have fW:∀a' w',ia ⟨w,λ_ _=>False,S,λ_=>.dead,[]⟩ fn.ntmps (λts m=>aP P (λxs=>C7 sh zs m xs) fn.results.toList ts m []) a' w'→
  a'.defers=[]/\∃v,(results fn a'.tmps).run P w'= .ok v w'/\∃v',Ending.returned v= .returned v'/\Grown w w'/\qX w w' S sh zs v':=by
  rintro a' w' ⟨DT,fp0,S0,ts',m0,h1,hk⟩;refine ⟨h1.defers,?_⟩;obtain ⟨ys,us,hq,h2,h3,h4⟩:=cI h1 fn.results.toList [] [] ⟨rfl,λi hi=>absurd hi (q20 _)⟩ (λi hi=>absurd hi (q20 _)) hk;obtain ⟨h3a,h3b⟩:=h3;simp only[q15] at h3a h3b;have hy1:ys.length=1:=by rcases hq with ⟨_,rfl⟩|⟨l,v,rfl,_⟩<;>rfl
  obtain ⟨u,rfl⟩:∃u,us=[u]:=List.length_eq_one_iff.1 (h3a.trans hy1);have hu:=h3b 0 (by omega);refine ⟨u,?_,u,rfl,⟨h1.size,λb hb=>h1.base b hb (λ_ h=>h),h1.out⟩,?_⟩
  . have hm:results fn a'.tmps=(do let vs ←fn.results.mapM (cW a'.tmps);pure (if h:vs.size=1 then vs[0] else .tuple vs)):=by
     unfold results;congr 1
    rw[hm,Sem.run_bind,Array.mapM_eq_mapM_toList];have:(List.toArray <$> fn.results.toList.mapM (cW a'.tmps):Sem aV).run P w'= .ok #[u] w':=by rw[map_eq_pure_bind,Sem.run_bind,h2];rfl
    rw[this];rfl
  rcases hq with ⟨hz,rfl⟩|⟨l,v,rfl,hl⟩
  . have hu:RV w' S0 DT (.val (.slice none 0 0)) u:=hu;obtain ⟨rfl,_⟩:=aS hu;exact .inl ⟨hz,_,rfl⟩
  have hu:RV w' S0 DT (.ref l v 0 zs.length) u:=hu;have key:∀deep,ah m0 l=some (.row v sh deep zs)->(deep=true->zs=[])->qX w w' S sh zs u:=by
   intro deep hlk hd;rcases row_one h0 (h1.aG l _ hlk) hd hu with ⟨hz,hn⟩|⟨b,cap,rfl,hfs,ho⟩
   . exact .inl ⟨hz,hn⟩
   have hbf:b∈fp0 l:=(by rw[hfs];simp);refine .inr ⟨b,cap,rfl,?_,ho.mono (λ_ _=>rfl) (λc hc=>?_) λ_ _=>rfl⟩
   . rcases (h1.cu l b hbf).2 with hh|⟨_,hh,_⟩
     . exact hh
     exact hh.elim
   rcases (h1.sB c hc).2 with hh|hh
   . exact .inr ⟨hh,(h1.sB c hc).1,λe=>h1.bS l b hbf (e▸hc)⟩
   exact .inl hh
  rcases hl with hl|⟨hz,hl⟩
  . exact key false hl (λh=>by cases h)
  exact key true (by rw[hz];exact hl) (λ_=>hz)
 refine wp_mono (cB c _ _ _ hok hv _ _ _ _ _ _ hRS) ?_;intro e a' w' hq;cases e with
 |normal=>exact fW a' w' hq
 |ret=>exact fW a' w' hq
 |_=>obtain ⟨_,_,_,_,_,_,hh⟩:=hq;exact hh.elim
theorem oh.cT {P:pR} {f:fI} {fn:Func} {c:Code} {args:List AV} {sh:Sh} {zs:List AV} (N:Nat) (rs:List ResultVar) (hf:P.funcs[f]? =some fn) (hN:fn.ntmps=N:=by exact rfl) (hr:fn.results.toList=rs:=by exact rfl) (hn:(fn.name== "runtime.NumGoroutine")=false:=by exact rfl)
 (hb:fn.body=some c:=by exact rfl) (hok:(codeOk N c&&(decide (0<sh.sz)&&decide (rs.length=1)))=true:=by exact rfl) (ha:args.length<=N:=by exact oT rfl) (hv:vc P N c (bH 0 args) [] (Ip P rs sh zs)):oh P f args sh zs:=by
 simp only[Bool.and_eq_true,decide_eq_true_eq] at hok;subst hN;subst hr;exact oh.nq hok.2.1 hf hn hb hok.1 ha hok.2.2 hv
theorem oh.io {P:pR}{f:fI}{xs:lA}{sh:Sh}{zs:lA}(h0:0<sh.sz)(h:oh P f xs sh zs)(hl:aq xs=[])(l:Nat)(hio:l<bE){m:Mem}{k:AV->Mem->Prop}
 (hk:k (.ref l (az m l) 0 zs.length) ((l,.row (az m l) sh false zs)::m)):hU P f xs m k:=by
 intro B N φ fp S ts a w vs hR hsz hx hxl;refine ⟨h.1,(h.2 w S vs (λb hb=>(hR.sB b hb).1) hR.jx hsz λi hi=>cR (hx i hi) (bO hl i hi)).mono ?_⟩;rintro e w' ⟨v,rfl,hg,j9⟩;refine ⟨v,rfl,?_⟩;have hR1:=hR.grown hg;have fK:∀af,known m l af->af<az m l:=by rintro af ⟨k0,h1,h2⟩;unfold az;rw[h1];exact Nat.lt_succ_of_le h2
 have hkn:known ((l,.row (az m l) sh false zs)::m) l (az m l):=⟨_,by rw[aw,if_pos rfl],q17 _⟩;rcases j9 with ⟨rfl,ad,rfl⟩|⟨b,cap,rfl,hb,bc⟩
 . have hR2:=hR1.next l (.nil (az m l)) [] S (.row (az m l) sh false []) (q17 _) (a7.refl _) (jI.refl _) (λ_ _ _=>rfl) (λc hc=>⟨hc,rfl⟩) (λc h1 h2=>absurd h1 h2) (λl b sh af cs e _ hb=>⟨cs,e,hb,rfl⟩)
    (λ_ _ _ _=>rfl) (λaf hk=>⟨λ_ _ e=>(by cases e),λe=>by cases e;exact absurd (fK _ hk) (Nat.lt_irrefl _)⟩) (λaf hk=>Nat.le_of_lt (fK af hk)) (.inl ⟨by rw[aB],rfl,rfl⟩) (λ_ _ hk=>by cases hk) q16 (λc hc=>by cases hc)
   exact ⟨_,_,_,_,_,_,hR2,.ref l _ 0 0 _ (λb sh e=>by rw[aB] at e;cases e) (λ_=>⟨rfl,ad,rfl⟩) rfl,λl' af hl'=>by simp only[ao,List.mem_singleton,Prod.mk.injEq] at hl';obtain ⟨rfl,rfl⟩:=hl';exact hkn,rfl,hk⟩
 obtain ⟨cs,e,fss,hgf,aD,hcs,b_,hmx,hff,hfl,hvv⟩:=gI bc (by simp);have hbw:b<w'.heap.size:=(q1.1 aD).1
 have hR2:=hR1.next l (.at b sh (az m l)) [b] (λc=>S c\/(w.heap.size<=c/\c<w'.heap.size/\c≠b)) (.row (az m l) sh false zs) (q17 _) (a7.refl _) (jI.refl _) (λ_ _ _=>rfl) (λc hc=>⟨.inl hc,rfl⟩)
  (λc h1 h2=>by
    rcases h1 with h1|⟨h1,h3,h4⟩
    . exact absurd h1 h2
    exact ⟨h3,.inl (q18 hR.size h1),λl' _ hc=>by have:=(hR.cu l' c hc).1;omega⟩)
  (λl b sh af cs e _ hb=>⟨cs,e,hb,rfl⟩) (λ_ _ _ _=>rfl)
  (λaf hk=>LS.kJ _ _ _ _ _ (fK af hk)) (λaf hk=>Nat.le_of_lt (fK af hk))
  (.inr ⟨b,cap,by rw[aB],by simp,λ_=>rfl,bc⟩) (λ_ _ hk=>by cases hk) (by simp)
  (λc hc=>by
    rw[List.mem_singleton] at hc;subst hc;refine ⟨?_,λl' _ hc=>?_,hbw,.inl (q18 hR.size hb)⟩
    . rintro (h1|⟨_,_,h1⟩)
      . have:=(hR.sB c h1).1;omega
      exact h1 rfl
    have:=(hR.cu l' c hc).1;omega)
 refine ⟨_,_,_,_,_,_,hR2,.ref l _ 0 _ _ (λb' sh' e'=>?_) (λe'=>by rw[aB] at e';cases e') rfl,λl' af hl'=>by simp only[ao,List.mem_singleton,Prod.mk.injEq] at hl';obtain ⟨rfl,rfl⟩:=hl';exact hkn,rfl,hk⟩;rw[aB] at e';cases e';exact ⟨_,cap,rfl,b_,.inr ⟨by rw[Nat.zero_mul],cs,e,aD,by rw[hcs,q21]⟩⟩
theorem ik {P:pR}{f:fI}{d:Nat}{xs ts:lA}{m:Mem}{k:AV->Mem->Prop}{q:Pack k}{sh:Sh}{zs:lA}(h:oh P f xs sh zs)(h0:0<sh.sz)(hl:aq xs=[])(hio:1000*(d+1)<bE)
 (hk:k (.ref (1000*(d+1)) (az m (1000*(d+1))) 0 zs.length) ((1000*(d+1),.row (az m (1000*(d+1))) sh false zs)::m)):ie P f d xs ts m k q:=by
 refine .inr (.inr ⟨.ref (1000*(d+1)) (az m (1000*(d+1))) 0 zs.length,[(1000*(d+1),.row (az m (1000*(d+1))) sh false zs)],hk,λm' _ hm' k' hk'=>?_⟩);have e:az m' (1000*(d+1))=az m (1000*(d+1)):=by unfold az;rw[hm' (1000*(d+1)) (by show ah [_] _≠none;rw[aw,if_pos rfl];exact λe=>by cases e)]
 exact h.io h0 hl _ hio (by rw[e];exact hk')
theorem oD.row {P:pR}{f:fI}(v:Nat)(xs ys:lA)(hlen:ys.length=xs.length)(td:bm xs=true)(hfy:∀i (h:i<ys.length),fits ⟨1,false⟩ ys[i])(hE:Enters P f)
 (hc:∀(w:World) (b cap:Nat) (cs:aV) (e:El),w.heap[b]? =some (eA cs e)->cs.size=cap->xs.length<=cap->(∀i (h:i<xs.length),Rd w (λ_=>False) xs[i] (cs.toList.getD i uD))→
   Calls P f #[.slice (some ⟨b,0,none⟩) xs.length cap] w λe' w'=>e'= .returned (.tuple #[])/\∃cs':aV,cs'.size=cs.size/\(∀i (h:i<ys.length),Rd w' (λ_=>False) ys[i] (cs'.toList.getD i uD))∧
    w'.heap[b]? =some (eA cs' e)/\(∀c:Nat,c≠b->c<w.heap.size->w'.heap[c]? =w.heap[c]?)/\w.heap.size<=w'.heap.size/\a7 w w')
 (h0:xs=[]->∀(a:Option Addr)(w:World),Calls P f #[.slice a 0 0] w λe' w'=>e'= .returned (.tuple #[])/\Grown w w'):
 oD P f [.row v ⟨1,false⟩ true xs] [.ref 1000000000 v 0 xs.length] (λr io=>r= .aX []/\io=[.row v ⟨1,false⟩ true ys]):=by
 refine ⟨hE,λw φ fp S vs hsz hR=>?_⟩;have hv0:=hR.tm 0;have hlk:ah (mj 0 [bf.row v ⟨1,false⟩ true xs]) bE=some (.row v ⟨1,false⟩ true xs):=rfl;obtain ⟨u,rfl⟩:∃u,vs= #[u]:=by have:vs.size=1:=hsz;exact ⟨vs[0],by apply Array.ext<;>simp_all⟩
 have hx:RV w S φ (.ref 1000000000 v 0 xs.length) u:=hv0;obtain ⟨r1,r2⟩:=dt hx
 have fin:∀(w':World) (fp':nN) (k:bf),k= .row v ⟨1,false⟩ true ys->RS (HH w φ fp S [.row v ⟨1,false⟩ true xs]) (#[u]:aV).size φ fp' S (bH 0 [.ref 1000000000 v 0 xs.length]) ((bE,k)::mj 0 [.row v ⟨1,false⟩ true xs]) {tmps:= #[u],defers:=[]} w'→
  ∃r v' io' φ' fp' S' m',Ending.returned (Value.tuple #[])= .returned v'/\(r= .aX []/\io'=[bf.row v ⟨1,false⟩ true ys])/\RS (HH w φ fp S [.row v ⟨1,false⟩ true xs]) 0 φ' fp' S' [] m' {tmps:= #[],defers:=[]} w'/\Lj [.row v ⟨1,false⟩ true xs] io' m'∧
   ∃fs,Own w' (λ_=>False) r v' fs/\fs.Nodup/\∀b,b∈fs->w.heap.size<=b/\¬S' b/\∀l,bE<=l->b∉fp' l:=by
  rintro w' fp' k rfl h;refine ⟨.aX [],.tuple #[],_,φ,fp',S,_,rfl,⟨rfl,rfl⟩,{h with tm:=λt=>by rw[look_nil];exact .rd _ _ (.undef _),tl:=λt l af hl=>(by rw[look_nil] at hl;cases hl),defers:=rfl,ly:=rfl},⟨rfl,λj hj hj'=>?_⟩,[],.rd _ _ (.aX [] #[] rfl λi hi=>absurd hi (q20 _)),q16,λb hb=>by cases hb⟩;have:j=0:=by simpa using hj
  subst this;exact ⟨by simp[aw],rfl,trivial⟩
 have nilCase:xs=[]->(∃a,u= .slice a 0 0)->Calls P f #[u] w λe' w'=>∃r v' io' φ' fp' S' m',e'= .returned v'/\(r= .aX []/\io'=[bf.row v ⟨1,false⟩ true ys])/\RS (HH w φ fp S [.row v ⟨1,false⟩ true xs]) 0 φ' fp' S' [] m' {tmps:= #[],defers:=[]} w'/\Lj [.row v ⟨1,false⟩ true xs] io' m'∧
       ∃fs,Own w' (λ_=>False) r v' fs/\fs.Nodup/\∀b,b∈fs->w.heap.size<=b/\¬S' b/\∀l,bE<=l->b∉fp' l:=by
  rintro h1 ⟨a,rfl⟩;have hy:ys=[]:=q5 (by rw [hlen,h1];rfl);refine (h0 h1 a w).mono ?_;rintro e' w' ⟨rfl,hg⟩;have hR2:=hR.grown hg;refine fin w' fp (.row v ⟨1,false⟩ true ys) rfl ?_;have e1:ah (mj 0 [bf.row v ⟨1,false⟩ true xs])=ah ((bE,.row v ⟨1,false⟩ true ys)::mj 0 [.row v ⟨1,false⟩ true xs]):=by
   funext l;rw[aw];split
   . rename_i e;subst e;rw[hlk,h1,hy]
   rfl
  have kn:∀l af,known (mj 0 [bf.row v ⟨1,false⟩ true xs]) l af->known ((bE,.row v ⟨1,false⟩ true ys)::mj 0 [.row v ⟨1,false⟩ true xs]) l af:=by rintro l af ⟨k',q1,q2⟩;exact ⟨k',by rw[←e1];exact q1,q2⟩
  exact {hR2 with tl:=λt l af hl=>kn l af (hR2.tl t l af hl),ca:=λl hl=>hR2.ca l (by rw[e1];exact hl),aG:=λl k hk=>hR2.aG l k (by rw[e1];exact hk),bl:=λl v xs hb l' af hl=>kn l' af (hR2.bl l v xs (by rw[e1];exact hb) l' af hl),kn:=λl af h1 h2=>kn l af (hR2.kn l af h1 h2)}
 rcases hR.aG bE _ hlk with ⟨hφ,hxs,_⟩|⟨b,cap,hφ,hbm,_,bc⟩
 . exact nilCase hxs (r2 hφ).2
 simp only[if_true] at bc;obtain ⟨a,cap',rfl,hn,hcp⟩:=r1 b _ hφ;rcases hcp with rfl|⟨rfl,cs0,e0,hh0,hs0⟩
 . have hx0:xs=[]:=q5 (by omega);exact nilCase hx0 ⟨a,by rw[hx0];rfl⟩
 rcases kg bc with ⟨hx0,hf0,_⟩|⟨b',cap2,cs,e,fss,q1,hgf,aD,hcs,b_,hmx,hff,hfl,hvv⟩
 . rw[hf0] at hbm;cases hbm
 simp only[Value.slice.injEq,Option.some.injEq,Addr.mk.injEq] at q1;obtain ⟨⟨rfl,_⟩,_,rfl⟩:=q1;rw[aD] at hh0;simp only[Option.some.injEq,Obj.cells.injEq] at hh0;obtain ⟨rfl, -, -⟩:=hh0;simp only[Nat.mul_one,q21] at hs0 hcs;have hfe:∀i (h:i<xs.length),Rd w (λ_=>False) xs[i] (cs.toList.getD i uD)/\fss.getD i []=[]:=by intro i hi;have:=fA (S':=λ_=>False) (hvv i hi) (jK td i hi);rw[bd,Nat.mul_one] at this;exact this
 have hfs:fss.flatten=[]:=List.flatten_eq_nil_iff.2 λl hl=>by
  obtain ⟨i,hi,rfl⟩:=q10 hl;have:=(hfe i (hfl▸hi)).2
  rwa [q6,q7 hi] at this
 rw[hfs] at hgf;refine (hc w b cap' cs e aD hs0 hn λi hi=>(hfe i hi).1).mono ?_;rintro e' w' ⟨rfl,cs',hs',hr',hb',wh,ot,z6⟩;have hbl:=(hR.cu bE b (by rw[hgf];simp)).1;have hnx:=hR.next (w':=w') bE (φ bE) (fp bE) S (.row v ⟨1,false⟩ true ys) ot z6 ?_ ?_ ?_ (λc h1 h2=>absurd h1 h2) ?_ ?_ (λaf _=>LS.le_refl _ _) ?_ ?_ (λ_ _ hk=>by cases hk) (hR.hZ bE) ?_
 . have e1:nX φ bE (φ bE)=φ:=(by funext l;by_cases e:l=bE<;>simp[nX,e]);rw[e1] at hnx;exact fin w' _ _ rfl hnx
 . intro c cs2 e2 hc2;by_cases ec:c=b
   . subst ec;obtain rfl:=dc (aD.symm.trans hc2);exact ⟨cs',e,hb',hs'⟩
   exact ⟨cs2,e2,by rw[wh c ec (q1.1 hc2).1];exact hc2,rfl⟩
 . intro c hcl hio;exact wh c (λec=>hio bE (by subst ec;show c∈fp bE;rw[hgf];simp)) hcl
 . intro c hcS;exact ⟨hcS,wh c (λec=>hR.bS bE b (by rw[hgf];simp) (ec▸hcS)) (hR.sB c hcS).1⟩
 . intro l c sh af cs2 e2 _ hc2;by_cases ec:c=b
   . subst ec;obtain rfl:=dc (aD.symm.trans hc2);exact ⟨cs',e,hb',hs'⟩
   exact ⟨cs2,e2,by rw[wh c ec (q1.1 hc2).1];exact hc2,rfl⟩
 . intro l' hl' c hcl;exact wh c (λec=>hl' (hR.fL l' bE c hcl (by rw[ec,hgf];simp))) (hR.cu l' c hcl).1
 . rintro af ⟨k',q1,q2⟩;rw[hlk] at q1;cases q1;exact q2
 . refine .inr ⟨b,cap,by rw [aB];exact hφ,by rw [hgf];simp,λh=>(by cases h),?_⟩;rw [hgf];have e2:[b]=b::(List.replicate ys.length ([]:lN)).flatten:=by
    congr 1;exact (List.flatten_eq_nil_iff.2 λl hl=>(List.mem_replicate.1 hl).2).symm
   show Own w' (λ_=>False) _ _ [b];rw[e2];refine .arr ⟨1,false⟩ ys b cap cs' e _ hb' (by rw[hs',hcs];simp) (by omega) hmx hfy (by simp) λi hi=>?_;have e3:(List.replicate ys.length ([]:lN)).getD i []=[]:=(by simp[q6,hi]);rw[e3,bd,Nat.mul_one];exact .rd _ _ (hr' i hi)
 intro c hc2;have:=hR.cu bE c hc2;exact ⟨hR.bS bE c hc2,λl' hl' hc'=>hl' (hR.fL l' bE c hc' hc2),q19 this.1 ot,this.2⟩
open Go.Sort
theorem yo:∀zs:lI,bm (zs.map λn=>AV.val (.int .i64 n))=true
 | []=>rfl
 |_::r=>by rw[List.map_cons,mZ,yo r];rfl
theorem Fy {w:World}{b:Nat}{cs:aV}{e:El}{zs:lI}(hb:w.heap[b]? =some (eA cs e))(b_:zs.length<=cs.size)
 (hrd:∀i (h:i<(zs.map λn=>AV.val (.int .i64 n)).length),Rd w (λ_=>False) (zs.map λn=>AV.val (.int .i64 n))[i] (cs.toList.getD i uD)):Holds (Value.int .i64) w b 0 zs.toArray:=by
 intro j hj;have hj':j<zs.length:=by simpa using hj
 have h1:=hrd j (by simpa using hj');rw[List.getElem_map] at h1;have h2:cs.toList.getD j uD= .int .i64 zs[j]:=by generalize cs.toList.getD j uD=u at h1;cases h1;rfl
 have h3:j<cs.size:=by omega
 have h5:cs[j]? =some (.int .i64 zs[j]):=by rw[q6,Array.getElem?_toList,Array.getElem?_eq_getElem h3] at h2;rw[Array.getElem?_eq_getElem h3];exact congrArg some h2
 have h6:zs.toArray[j]! =zs[j]:=by rw[getElem!_pos zs.toArray j hj];simp
 refine ⟨?_,?_⟩
 . simp only[World.cell?,hb,q21,Option.isSome_none,q3,↓reduceIte,h5,h6]
 have:=ml hb h3;simpa using this
theorem BO {w:World}{b n:Nat}{cs:aV}{e:El}{ys:lI}{os:Array Obj}(hb:w.heap[b]? =some (eA cs e))(hcs:ys.length<=cs.size):
 ∃cs':aV,cs'.size=cs.size/\(∀i (h:i<(ys.map λn=>AV.val (.int .i64 n)).length),Rd (grow (putRow (Value.int .i64) (Sort.ahead w n) b 0 ys.toArray) os) (λ_=>False) (ys.map λn=>AV.val (.int .i64 n))[i] (cs'.toList.getD i uD))∧
  (grow (putRow (Value.int .i64) (Sort.ahead w n) b 0 ys.toArray) os).heap[b]? =some (eA cs' e)/\(∀c:Nat,c≠b->c<w.heap.size->(grow (putRow (Value.int .i64) (Sort.ahead w n) b 0 ys.toArray) os).heap[c]? =w.heap[c]?)∧
  w.heap.size<=(grow (putRow (Value.int .i64) (Sort.ahead w n) b 0 ys.toArray) os).heap.size/\a7 w (grow (putRow (Value.int .i64) (Sort.ahead w n) b 0 ys.toArray) os):=by
 have hbl:b<w.heap.size:=(q1.1 hb).1;have aD:∀c:Nat,c<w.heap.size->(grow (putRow (Value.int .i64) (Sort.ahead w n) b 0 ys.toArray) os).heap[c]? =if b=c then w.heap[c]?.map (onCells (putCells (Value.int .i64) 0 ys.toArray)) else w.heap[c]? :=by intro c hc;rw[heap_grow_old _ _ (by simpa using hc)];simp only[putRow,mapBlock,Sort.heap_ahead,Array.getElem?_modify]
 refine ⟨putCells (Value.int .i64) 0 ys.toArray cs,by simp[putCells],?_,?_,?_,?_,⟨rfl,rfl,rfl⟩⟩
 . intro i hi;have hi':i<ys.length:=(by simpa using hi);have hi2:i<cs.size:=(by omega);have e1:(putCells (Value.int .i64) 0 ys.toArray cs).toList.getD i uD= .int .i64 ys[i]:=by
    rw[q6,Array.getElem?_toList];simp[putCells,hi2,hi']
   rw[e1,List.getElem_map];exact .val _ rfl
 . have hs:(putCells (Value.int .i64) 0 ys.toArray cs).size=cs.size:=(by simp[putCells]);rw[aD b hbl,if_pos rfl,hb];show some (Obj.cells (putCells (Value.int .i64) 0 ys.toArray cs) e.1 (ou e cs.size))=some (Obj.cells (putCells (Value.int .i64) 0 ys.toArray cs) e.1 (ou e (putCells (Value.int .i64) 0 ys.toArray cs).size));rw[hs]
 . intro c hcb hc;rw[aD c hc,if_neg (Ne.symm hcb)]
 simp
theorem oD.S5 {P:pR}{f:fI}(hE:Enters P f)(g:lI->lI)(hg:∀zs,(g zs).length=zs.length)
 (hs:∀(pN cap:Nat) (zs:lI) (w:World),Holds (Value.int .i64) w pN 0 zs.toArray->pN<w.heap.size->zs.length<4611686018427387904→
   Calls P f #[.slice (some ⟨pN,0,none⟩) zs.length cap] w λe w'=>e= .returned (.tuple #[])/\∃n os,w'=grow (putRow (Value.int .i64) (Sort.ahead w n) pN 0 (g zs).toArray) os)
 (h0:∀(a:Option Addr)(w:World),Calls P f #[.slice a 0 0] w λe w'=>e= .returned (.tuple #[])/\w'=w)
 (v:Nat) (zs:lI) (hz:zs.length<=1048576):
 oD P f [.row v ⟨1,false⟩ true (zs.map λn=>.val (.int .i64 n))] [.ref 1000000000 v 0 zs.length] (λr io=>r= .aX []/\io=[.row v ⟨1,false⟩ true ((g zs).map λn=>.val (.int .i64 n))]):=by
 have:=oD.row (P:=P) (f:=f) v (zs.map λn=>AV.val (.int .i64 n)) ((g zs).map λn=>AV.val (.int .i64 n)) (by simp [hg])
  (yo zs) (by intro i hi;simp[fits]) hE ?_ ?_
 . simpa using this
 . intro w b cap cs e hb hcs b_ hrd;have h4:(zs.map λn=>AV.val (.int .i64 n)).length=zs.length:=List.length_map _;have h1:=hs b cap zs w (Fy hb (by omega) hrd) (q1.1 hb).1 (by omega);rw[List.length_map];refine h1.mono ?_;rintro e' w' ⟨rfl,n,os,rfl⟩;exact ⟨rfl,BO hb (by rw[hg];omega)⟩
 intro hx a w;refine (h0 a w).mono ?_;rintro e' w' ⟨rfl,rfl⟩;exact ⟨rfl,Grown.refl _⟩
section
variable {P:pR} {m:Mem}
theorem Fz {f:fI}{l af j:Nat}{xs ys:lA}{k:AV->Mem->Prop}(hE:Enters P f)(hlk:ah m l=some (.row af ⟨1,false⟩ true xs))(td:bm xs=true)(hlen:ys.length=xs.length)(hj:j<=xs.length)
 (hfy:∀i (h:i<ys.length),fits ⟨1,false⟩ ys[i])
 (hc:∀(w:World) (b cap:Nat) (cs:aV) (e:El),w.heap[b]? =some (eA cs e)->cs.size=cap->xs.length<=cap->(∀i (h:i<xs.length),Rd w (λ_=>False) xs[i] (cs.toList.getD i uD))→
   Calls P f #[.slice (some ⟨b,0,none⟩) xs.length cap] w λe' w'=>e'= .returned (.slice (some ⟨b,0,none⟩) j cap)/\∃cs':aV,cs'.size=cs.size/\(∀i (h:i<ys.length),Rd w' (λ_=>False) ys[i] (cs'.toList.getD i uD))∧
    w'.heap[b]? =some (eA cs' e)/\(∀c:Nat,c≠b->c<w.heap.size->w'.heap[c]? =w.heap[c]?)/\w.heap.size<=w'.heap.size/\a7 w w')
 (h0:xs=[]->∀(a:Option Addr)(w:World),Calls P f #[.slice a 0 0] w λe' w'=>e'= .returned (.slice a 0 0)/\Grown w w')
 (hk:k (.ref l (af+1) 0 j) ((l,.row (af+1) ⟨1,false⟩ true ys)::m)):hU P f [.ref l af 0 xs.length] m k:=by
 refine λB N φ fp S ts a w vs hR hsz hx hxl=>⟨hE,?_⟩;obtain ⟨u,rfl⟩:∃u,vs= #[u]:=by have:vs.size=1:=hsz;exact ⟨vs[0],by apply Array.ext<;>simp_all⟩
 have hx0:RV w S φ (.ref l af 0 xs.length) u:=hx 0 (by simp);obtain ⟨r1,r2⟩:=dt hx0;have fK:∀v',known m l v'->v'<af+1:=by rintro v' ⟨k',h1,h2⟩;rw[hlk] at h1;cases h1;exact Nat.lt_succ_of_le h2
 have nilCase:xs=[]->(∃a',u= .slice a' 0 0)->Calls P f #[u] w λe' w'=>∃v,e'= .returned v/\ir B N a (λx ts' m'=>ts'=ts/\k x m') v w':=by
  rintro h1 ⟨a',rfl⟩;have hy:ys=[]:=q5 (by rw[hlen,h1];rfl);have hj0:j=0:=by rw[h1] at hj;simpa using hj
  refine (h0 h1 a' w).mono ?_;rintro e' w' ⟨rfl,hg⟩;refine ⟨_,rfl,(hR.grown hg).rY fK (nv:=af+1) (sh:=⟨1,false⟩) (deep:=true) ⟨rfl,?_⟩⟩;rw[hy,hj0] at hk;exact hk
 rcases hR.aG l _ hlk with ⟨hφ,hxs,_⟩|⟨b,cap,hφ,hbm,_,bc⟩
 . exact nilCase hxs (r2 hφ).2
 simp only[if_true] at bc;obtain ⟨ad,cap',rfl,hn,hcp⟩:=r1 b _ hφ;rcases hcp with rfl|⟨rfl,cs0,e0,hh0,hs0⟩
 . have hx1:xs=[]:=q5 (by omega);exact nilCase hx1 ⟨ad,by rw[hx1];rfl⟩
 rcases kg bc with ⟨hx1,hf0,_⟩|⟨b',cap2,cs,e,fss,q1,hgf,aD,hcs,b_,hmx,hff,hfl,hvv⟩
 . rw[hf0] at hbm;cases hbm
 simp only[Value.slice.injEq,Option.some.injEq,Addr.mk.injEq] at q1;obtain ⟨⟨rfl,_⟩,_,rfl⟩:=q1;rw[aD] at hh0;simp only[Option.some.injEq,Obj.cells.injEq] at hh0;obtain ⟨rfl, -, -⟩:=hh0;simp only[Nat.mul_one,q21] at hs0 hcs;have hfe:∀i (h:i<xs.length),Rd w (λ_=>False) xs[i] (cs.toList.getD i uD)/\fss.getD i []=[]:=by intro i hi;have:=fA (S':=λ_=>False) (hvv i hi) (jK td i hi);rw[bd,Nat.mul_one] at this;exact this
 have hfs:fss.flatten=[]:=List.flatten_eq_nil_iff.2 λl hl=>by
  obtain ⟨i,hi,rfl⟩:=q10 hl;have:=(hfe i (hfl▸hi)).2
  rwa [q6,q7 hi] at this
 rw [hfs] at hgf;rw [show (0:Nat)*(1:Nat)=0 from rfl];refine (hc w b cap' cs e aD hs0 hn λi hi=>(hfe i hi).1).mono ?_;rintro e' w' ⟨rfl,cs',hs',hr',hb',wh,ot,z6⟩;have hbl:b<w.heap.size:=(q1.1 aD).1;have DJ:jI w w':=by
  intro c cs2 e2 hc2;by_cases ec:c=b
  . subst ec;obtain rfl:=dc (aD.symm.trans hc2);exact ⟨cs',e,hb',hs'⟩
  exact ⟨cs2,e2,by rw[wh c ec (q1.1 hc2).1];exact hc2,rfl⟩
 refine ⟨_,rfl,hR.kh (b:=b) (cap:=cap) (n:=j) (nv:=af+1) (sh:=⟨1,false⟩) (deep:=true) (xs:=ys) (fs:=[b]) ot z6 DJ wh
  (λl b sh af cs e _ hb=>DJ b cs e hb) (.inl hbm) fK (λc hc=>.inl (by simpa using hc)) (by simp) (λh=>(by cases h)) (by simp) ?_ ?_ ⟨rfl,hk⟩⟩
 . have e2:[b]=b::(List.replicate ys.length ([]:lN)).flatten:=by
    congr 1;exact (List.flatten_eq_nil_iff.2 λl hl=>(List.mem_replicate.1 hl).2).symm
   show Own w' (λ_=>False) _ _ [b];rw[e2];refine .arr ⟨1,false⟩ ys b cap cs' e _ hb' (by rw[hs',hcs];simp) (by omega) hmx hfy (by simp) λi hi=>?_;have e3:(List.replicate ys.length ([]:lN)).getD i []=[]:=(by simp[q6,hi]);rw[e3,bd,Nat.mul_one];exact .rd _ _ (hr' i hi)
 exact ⟨some ⟨b,0,none⟩,cap',rfl,by omega,.inr ⟨rfl,cs',e,hb',by rw[hs',hs0];simp⟩⟩
theorem sK {f:fI}{l af n:Nat}{zs ys:lI}{k:AV->Mem->Prop}(j:Nat)(hE:Enters P f)(hlk:ah m l=some (.row af ⟨1,false⟩ true (zs.map λn=>.val (.int .i64 n))))(hn:n=zs.length)(hlen:ys.length=zs.length)(hj:j<=zs.length)
 (hz:zs.length<=1048576)
 (hc:∀(pN cap:Nat) (w:World),Holds (Value.int .i64) w pN 0 zs.toArray->zs.length<=cap→
   Calls P f #[.slice (some ⟨pN,0,none⟩) zs.length cap] w λe' w'=>e'= .returned (.slice (some ⟨pN,0,none⟩) j cap)/\∃q,w'=putRow (Value.int .i64) (Sort.ahead w q) pN 0 ys.toArray)
 (h0:∀(a:Option Addr)(w:World),Calls P f #[.slice a 0 0] w λe' w'=>e'= .returned (.slice a 0 0)/\w'=w)
 (hk:k (.ref l (af+1) 0 j) ((l,.row (af+1) ⟨1,false⟩ true (ys.map λn=>.val (.int .i64 n)))::m)):hU P f [.ref l af 0 n] m k:=by
 have h4:(zs.map λn=>AV.val (.int .i64 n)).length=zs.length:=List.length_map _;rw[hn,←h4];refine Fz hE hlk (yo zs) (ys:=ys.map λn=>.val (.int .i64 n)) (j:=j) (by simp[hlen]) (by omega) (by intro i hi;simp[fits]) ?_ ?_ hk
 . intro w b cap cs e hb hcs b_ hrd;have h1:=hc b cap w (Fy hb (by omega) hrd) (by omega);rw[h4];refine h1.mono ?_;rintro e' w' ⟨rfl,n,rfl⟩;refine ⟨rfl,?_⟩;have:=BO (os:= #[]) (n:=n) (ys:=ys) hb (by omega);simpa only[grow_empty] using this
 intro hx a w;refine (h0 a w).mono ?_;rintro e' w' ⟨rfl,rfl⟩;exact ⟨rfl,Grown.refl _⟩
theorem FA {f:fI}{d l af n:Nat}{zs ys:lI}{xt:lA}{k:AV->Mem->Prop}{q:Pack k}(j:Nat)(hE:Enters P f)(hlk:ah m l=some (.row af ⟨1,false⟩ true (zs.map λn=>.val (.int .i64 n))))(hn:n=zs.length)(hlen:ys.length=zs.length)(hj:j<=zs.length)
 (hz:zs.length<=1048576)
 (hc:∀(pN cap:Nat) (w:World),Holds (Value.int .i64) w pN 0 zs.toArray->zs.length<=cap→
   Calls P f #[.slice (some ⟨pN,0,none⟩) zs.length cap] w λe' w'=>e'= .returned (.slice (some ⟨pN,0,none⟩) j cap)/\∃q,w'=putRow (Value.int .i64) (Sort.ahead w q) pN 0 ys.toArray)
 (h0:∀(a:Option Addr)(w:World),Calls P f #[.slice a 0 0] w λe' w'=>e'= .returned (.slice a 0 0)/\w'=w)
 (hk:k (.ref l (af+1) 0 j) ((l,.row (af+1) ⟨1,false⟩ true (ys.map λn=>.val (.int .i64 n)))::m)):eo P f d [.ref l af 0 n] xt m k q:=
 .inl (sK j hE hlk hn hlen hj hz hc h0 hk)
theorem FB {f:fI}{d l af n:Nat}{zs ys:lI}{xt:lA}{k:AV->Mem->Prop}{q:Pack k}(j:Nat)(hE:Enters P f)(hlk:ah m l=some (.row af ⟨1,false⟩ true (zs.map λn=>.val (.int .i64 n))))(hn:n=zs.length)(hlen:ys.length=zs.length)(hj:j<=zs.length)
 (hz:zs.length<=1048576)
 (hc:∀(pN cap:Nat) (w:World),Holds (Value.int .i64) w pN 0 zs.toArray->zs.length<=cap→
   Calls P f #[.slice (some ⟨pN,0,none⟩) zs.length cap] w λe' w'=>e'= .returned (.slice (some ⟨pN,0,none⟩) j cap)/\∃q,w'=putRow (Value.int .i64) (Sort.ahead w q) pN 0 ys.toArray)
 (h0:∀(a:Option Addr)(w:World),Calls P f #[.slice a 0 0] w λe' w'=>e'= .returned (.slice a 0 0)/\w'=w)
 (hk:k (.ref l (af+1) 0 j) ((l,.row (af+1) ⟨1,false⟩ true (ys.map λn=>.val (.int .i64 n)))::m)):ie P f d [.ref l af 0 n] xt m k q:=
 .inr (.inr ⟨_,[_],hk,λm' a _ k' hk'=>sK j hE ((a l ⟨_,List.mem_singleton.2 rfl,NL.ref _ _ _ _⟩).trans hlk) hn hlen hj hz hc h0 hk'⟩)
theorem nu {P:pR}{w:World}{b o:Nat}{cs:aV}{e:El}{vs:lV}(hb:w.heap[b]? =some (eA cs e))(h1:∀u,u∈vs->u.oneCell'=true)(mh:o+vs.length<=cs.size):
 w.setCells b o vs=w.setRow b (cs.toList.take o++vs++cs.toList.drop (o+vs.length)).toArray:=by
 have e1:=iM P (e:=e) (o:=o) vs 0 cs w hb (by simpa using mh) h1
 have e2:=run_storeCells_cells (P:=P) b o vs 0 w (λj hj=>by
  have hlt:o+0+j<cs.size:=by omega
  simp [World.cell?,hb];omega) (λj hj=>by
   have hlt:o+j<cs.size:=(by omega);have:=ml hb hlt
   simpa using this) h1
 simp only[Nat.add_zero] at e1 e2;rw[e2] at e1;injection e1
theorem S6 {w:World}{S:nP}{x:AV}{l:lV}{o:Nat}{sh:Sh}{fs:lN}(h:Own w S x (elemV l o sh) fs)(hf:fits sh x)(hl:o+sh.sz<=l.length)(c:Nat)(hc:c<sh.sz):(l.getD (o+c) uD).oneCell'=true:=by
 cases sh with
 |mk sz ag=>
 simp only at hc hl;have one:leaf x->ag=false/\sz=1->(l.getD (o+c) uD).oneCell'=true:=by rintro hlf ⟨rfl,rfl⟩;have:=h.aW hlf;rw[bd] at this;rw[show o+c=o by omega];exact this
 cases x with
 |agg zs=>
  obtain ⟨rfl,hzl⟩:=hf;obtain ⟨cs,fss,hcs,_,h1,h2,_,h3⟩:=CM h;rw[cV] at hcs;cases hcs;have h4:=(h3 c (by rw[hzl];exact hc)).aW (h2 _ (by rw[hzl];exact hc));rw[show (((l.drop o).take sz).toArray.toList)=(l.drop o).take sz from rfl,bT _ _ _ _ hc] at h4;exact h4
 |undef=>exact hf.elim
 |aX xs=>exact hf.elim
 |_=>exact one trivial hf
def Pz (i p:Nat):Nat:=if p<i then p else p+1
theorem tM {α:Type}(xs:List α)(i p:Nat):(xs.eraseIdx i)[p]? =xs[Pz i p]? :=by rw[List.getElem?_eraseIdx];unfold Pz;split<;>rfl
theorem FD {f:fI}{l af i n:Nat}{sh:Sh}{xs:lA}{zs:lV}{k:AV->Mem->Prop}(hE:Enters P f)(hlk:ah m l=some (.row af sh true xs))(hn:n=xs.length)(hi:i<xs.length)(hsz:0<sh.sz)
 (hzl:zs.length=sh.sz) (hz1:∀u,u∈zs->u.oneCell'=true)
 (hc:∀(w:World) (b cap:Nat) (cs:aV) (e:El),w.heap[b]? =some (eA cs e)->cs.size=cap*sh.sz->cap<=9223372036854775807->xs.length<=cap->(∀v,v∈(cs.toList.drop ((i+1)*sh.sz)).take ((xs.length-(i+1))*sh.sz)->v.oneCell'=true)→
   Calls P f #[.slice (some ⟨b,0,none⟩) xs.length cap,.int .i64 i,.int .i64 ((i+1:Nat):Int)] w λe' w'=>e'= .returned (.slice (some ⟨b,0,none⟩) (xs.length-1) cap)∧
    ∃q,w'=((w.drewN q).setCells b (i*sh.sz) ((cs.toList.drop ((i+1)*sh.sz)).take ((xs.length-(i+1))*sh.sz))).setCells b ((xs.length-1)*sh.sz) zs)
 (hk:k (.ref l (af+1) 0 (xs.length-1)) ((l,.row (af+1) sh true (xs.eraseIdx i))::m)):hU P f [.ref l af 0 n,.val (.int .i64 i),.val (.int .i64 ((i:Int)+1))] m k:=by
 subst hn;refine λB N φ fp S ts a w vs hR YX hx hxl=>⟨hE,?_⟩;obtain ⟨u,u1,u2,rfl⟩:∃u u1 u2,vs= #[u,u1,u2]:=by
  have:vs.size=3:=YX
  exact ⟨vs[0],vs[1],vs[2],by
   apply Array.ext
   . simpa using this
   intro j h1 h2;have:j=0\/j=1\/j=2:=(by omega)
   rcases this with rfl|rfl|rfl<;>rfl⟩
 have hx0:RV w S φ (.ref l af 0 xs.length) u:=hx 0 (by simp);have hx1:RV w S φ (.val (.int .i64 i)) u1:=hx 1 (by simp);have hx2:RV w S φ (.val (.int .i64 ((i:Int)+1))) u2:=hx 2 (by simp);obtain ⟨rfl,_⟩:=aS hx1;obtain ⟨rfl,_⟩:=aS hx2;obtain ⟨r1,r2⟩:=dt hx0;have fK:∀v',known m l v'->v'<af+1:=by rintro v' ⟨k',h1,h2⟩;rw[hlk] at h1;cases h1;exact Nat.lt_succ_of_le h2
 rcases hR.aG l _ hlk with ⟨hφ,hxs,_⟩|⟨b,cap,hφ,hbm,_,bc⟩
 . rw[hxs] at hi;exact absurd hi (q20 _)
 simp only[if_true] at bc;obtain ⟨ad,cap',rfl,hn,hcp⟩:=r1 b _ hφ;rcases hcp with rfl|⟨rfl,cs0,e0,hh0,hs0⟩
 . omega
 rcases kg bc with ⟨hx1,hf0,_⟩|⟨b',cap2,cs,e,fss,q1,hgf,aD,hcs,b_,hmx,hff,hfl,hvv⟩
 . rw[hf0] at hbm;cases hbm
 simp only[Value.slice.injEq,Option.some.injEq,Addr.mk.injEq] at q1;obtain ⟨⟨rfl,_⟩,_,rfl⟩:=q1;rw[aD] at hh0;simp only[Option.some.injEq,Obj.cells.injEq] at hh0;obtain ⟨rfl, -, -⟩:=hh0;rw[q21] at hs0;have hcc:cap'=cap:=Nat.eq_of_mul_eq_mul_right hsz (by rw[←hs0,hcs]);subst hcc;have mh:xs.length*sh.sz<=cs.size:=by rw[hcs];exact Nat.mul_le_mul_right _ b_
 have cell1:∀p,p<xs.length->∀c,c<sh.sz->(cs.toList.getD (p*sh.sz+c) uD).oneCell'=true:=by intro p hp c hcl;have h1:=a8 (s:=sh.sz) hp;exact S6 (hvv p hp) (hff p hp) (by rw[Array.length_toList];omega) c hcl
 have hmul:∀p,(p+1)*sh.sz=p*sh.sz+sh.sz:=λp=>Nat.succ_mul p _;obtain ⟨g1,hg1⟩:∃g1,g1=(xs.length-(i+1))*sh.sz:=⟨_,rfl⟩;have hg2:(i+1)*sh.sz+g1=xs.length*sh.sz:=by rw[hg1,←Nat.add_mul];congr 1;omega
 have hg3:(xs.length-1)*sh.sz+sh.sz=xs.length*sh.sz:=by rw[←hmul];congr 1;omega
 have hg4:i*sh.sz+g1=(xs.length-1)*sh.sz:=by rw[hmul] at hg2;omega
 obtain ⟨news,qM⟩:∃news,news=(cs.toList.drop ((i+1)*sh.sz)).take ((xs.length-(i+1))*sh.sz):=⟨_,rfl⟩;have hnl:news.length=g1:=by rw[qM,hg1];simp;omega
 have Uq:∀c,c<g1->news.getD c uD=cs.toList.getD ((i+1)*sh.sz+c) uD:=by intro c hcl;rw[qM,bT _ _ _ _ (by rw[←hg1];exact hcl)]
 have hn1:∀u,u∈news->u.oneCell'=true:=by
  intro u hu;obtain ⟨t,ht,rfl⟩:=q10 hu;have h2:=Uq t (by omega);rw[q6,q7 ht] at h2;simp only[Option.getD_some] at h2;rw[h2];have h3:((i+1)*sh.sz+t) / sh.sz<xs.length:=by rw[Nat.div_lt_iff_lt_mul hsz];omega
  have h4:=Nat.div_add_mod ((i+1)*sh.sz+t) sh.sz;have h5:=cell1 _ h3 _ (Nat.mod_lt ((i+1)*sh.sz+t) hsz);rw[Nat.mul_comm] at h4;rw[h4] at h5;exact h5
 have hcr:=hc w b cap' cs e aD hcs (by unfold maxLen at hmx;omega) b_ (by rw[←qM];exact hn1);rw[←qM] at hcr;rw[show (0:Nat)*sh.sz=0 from Nat.zero_mul _];refine hcr.mono ?_;rintro e' w' ⟨rfl,q',hw'⟩;have Q8:(w.drewN q').heap[b]? =some (eA cs e):=aD;have hf1:i*sh.sz+news.length<=cs.size:=by rw[hnl];omega
 rw [nu (P:=P) Q8 hn1 hf1] at hw';have hs1:=bX (cs:=cs) hf1;have hh1:=bW Q8 hs1;have Ur:∀c,c<(xs.length-1)*sh.sz->(cs.toList.take (i*sh.sz)++news++cs.toList.drop (i*sh.sz+news.length)).toArray.toList.getD c uD=if c<i*sh.sz then cs.toList.getD c uD else cs.toList.getD (c+sh.sz) uD:=by
  intro c hcl;show (cs.toList.take (i*sh.sz)++news++cs.toList.drop (i*sh.sz+news.length)).getD c uD=_;rw[eH _ _ _ _ (by rw[Array.length_toList];exact hf1)];by_cases h1:c<i*sh.sz
  . rw[if_neg (by omega),if_pos h1]
  rw[if_pos (by omega),if_neg h1,Uq _ (by omega),hmul];congr 1;omega
 generalize (cs.toList.take (i*sh.sz)++news++cs.toList.drop (i*sh.sz+news.length)).toArray=cs1 at hw' hs1 hh1 Ur;have hf2:(xs.length-1)*sh.sz+zs.length<=cs1.size:=by rw[hzl,hs1];omega
 rw[nu (P:=P) hh1 hz1 hf2] at hw';have hs2:=bX (cs:=cs1) hf2;have hh2:=bW hh1 hs2;have Us:∀c,c<(xs.length-1)*sh.sz->(cs1.toList.take ((xs.length-1)*sh.sz)++zs++cs1.toList.drop ((xs.length-1)*sh.sz+zs.length)).toArray.toList.getD c uD=if c<i*sh.sz then cs.toList.getD c uD else cs.toList.getD (c+sh.sz) uD:=by intro c hcl;rw[←Ur c hcl];show (cs1.toList.take ((xs.length-1)*sh.sz)++zs++cs1.toList.drop ((xs.length-1)*sh.sz+zs.length)).getD c uD=_;rw[eH _ _ _ _ (by rw[Array.length_toList];exact hf2),if_neg (by omega)]
 have wh:∀c,c≠b->w'.heap[c]? =w.heap[c]? :=by intro c hcb;rw[hw',aC _ hcb,aC _ hcb];rfl
 have ZJ:w'.heap.size=w.heap.size:=by rw[hw'];simp
 have hso:a7 w w':=by rw[hw'];exact ⟨rfl,rfl,rfl⟩
 rw [←hw'] at hh2;clear hw';generalize (cs1.toList.take ((xs.length-1)*sh.sz)++zs++cs1.toList.drop ((xs.length-1)*sh.sz+zs.length)).toArray=cs2 at hs2 hh2 Us;have Tu:cs2.size=cs.size:=hs2.trans hs1;have DJ:jI w w':=by
  intro c cs3 e3 hc3;by_cases ec:c=b
  . subst ec;obtain rfl:=dc (aD.symm.trans hc3);exact ⟨cs2,e,hh2,Tu⟩
  exact ⟨cs3,e3,by rw[wh c ec];exact hc3,rfl⟩
 have nW:=hR.hZ l;rw[hgf] at nW;have jZ:=List.nodup_cons.1 nW;have hel:(xs.eraseIdx i).length=xs.length-1:=by rw[List.length_eraseIdx,if_pos hi]
 have dD:((fss.eraseIdx i).flatten).Sublist fss.flatten:=by
  rw[List.eraseIdx_eq_take_drop_succ,List.flatten_append];have e1:fss.flatten=(fss.take i).flatten++((fss.drop i).take 1).flatten++(fss.drop (i+1)).flatten:=by rw[List.append_assoc,←List.flatten_append,←List.flatten_append];congr 1;rw[show fss.drop (i+1)=(fss.drop i).drop 1 by rw[List.drop_drop],List.take_append_drop,List.take_append_drop]
  rw[e1];exact List.Sublist.append (List.sublist_append_left ..) (List.Sublist.refl _)
 have cy:∀c,c∈(fss.eraseIdx i).flatten->c∈fp l:=λc hc=>by rw[hgf];exact q12 _ (dD.subset hc)
 refine ⟨_,rfl,hR.kh (b:=b) (cap:=cap') (n:=xs.length-1) (nv:=af+1) (sh:=sh) (deep:=true) (xs:=xs.eraseIdx i) (fs:=b::(fss.eraseIdx i).flatten) (by omega) hso DJ (λc hcb _=>wh c hcb)
  (λl b sh af cs e _ hb=>DJ b cs e hb) (.inl hbm) fK (λc hc=>?_) (q13 ..) (λh=>(by cases h)) (List.nodup_cons.2 ⟨λhc=>jZ.1 (dD.subset hc),jZ.2.sublist dD⟩) ?_ ?_ ⟨rfl,hk⟩⟩
 . rcases q11.1 hc with rfl|hc
   . exact .inl rfl
   exact .inr (cy c hc)
 . show Own w' (λ_=>False) _ _ _;refine .arr sh (xs.eraseIdx i) b cap' cs2 e (fss.eraseIdx i) hh2 (by rw [Tu,hcs]) (by omega) hmx (λp hp=> ?_) (by rw [hel,List.length_eraseIdx,if_pos (by omega)];omega) λp hp=> ?_
   . have hp1:Pz i p<xs.length:=(by unfold Pz;split<;>omega);have:(xs.eraseIdx i)[p]=xs[Pz i p]:=by
      have h1:=tM xs i p;rw[q7 hp,q7 hp1] at h1;exact Option.some.inj h1
     rw[this];exact hff _ hp1
   have hp1:Pz i p<xs.length:=(by unfold Pz;split<;>omega);have hp2:p<xs.length-1:=(by omega);have e1:(xs.eraseIdx i)[p]=xs[Pz i p]:=by have h1:=tM xs i p;rw[q7 hp,q7 hp1] at h1;exact Option.some.inj h1
   have e2:(fss.eraseIdx i).getD p []=fss.getD (Pz i p) []:=by rw[q6,q6,tM]
   have m1:=a8 (s:=sh.sz) hp2;have m2:=a8 (s:=sh.sz) hp1;have e3:elemV cs2.toList (p*sh.sz) sh=elemV cs.toList (Pz i p*sh.sz) sh:=by
    refine iu (by rw[Array.length_toList,Tu];omega) (by rw[Array.length_toList];omega) (gJ (hff _ hp1)) λc hcl=>?_;rw[Us _ (by omega)];unfold Pz;by_cases h1:p<i
    . have:=a8 (s:=sh.sz) h1;rw[if_pos (by omega),if_pos h1]
    have:i*sh.sz<=p*sh.sz:=Nat.mul_le_mul_right _ (by omega);rw[if_neg (by omega),if_neg h1,hmul];congr 1;omega
   rw[e1,e2,e3];exact (hvv _ hp1).mono (λ_ h=>h.elim) (λ_ h=>h) λc hc2=>wh c λe=>jZ.1 (by rw[←e];exact aK (by omega) hc2)
 exact ⟨some ⟨b,0,none⟩,cap',rfl,by omega,.inr ⟨rfl,cs2,e,hh2,by rw[Tu,hcs]⟩⟩
end
def mc (P:pR)(f:fI)(io:List bf)(args:lA)(post:AV->List bf->Prop):Prop:=
 Enters P f/\∀(w:World) (φ:Nat->LS) (fp:nN) (S:nP) (vs:aV),vs.size=args.length→
  RS (HH w φ fp S io) vs.size φ fp S (bH 0 args) (mj 0 io) {tmps:=vs,defers:=[]} w→
  Calls P f vs w λe w'=>∃r v io' φ' fp' S' m',e= .returned v/\post r io'/\RS (HH w φ fp S io) 0 φ' fp' S' [] m' {tmps:= #[],defers:=[]} w'/\Lj io io' m'/\Rd w' S' r v
def PA (P:pR)(rs:List ResultVar)(vers:lN)(post:AV->List bf->Prop):de
 | .normal=>λts m=>aP P (λxs=>iO (λys m'=>aq ys=[]/\qT m' (λio'=>post (bG ys) io') 0 vers []) [] m xs) rs ts m []
 | .ret=>λts m=>aP P (λxs=>iO (λys m'=>aq ys=[]/\qT m' (λio'=>post (bG ys) io') 0 vers []) [] m xs) rs ts m []
 |_=>λ_ _=>False
theorem Mb (P:pR)(rs:List ResultVar)(vers:lN)(post:AV->List bf->Prop)(ts:Env)(m:Mem):
 PA P rs vers post .ret ts m=aP P (λxs=>iO (λys m'=>aq ys=[]/\qT m' (λio'=>post (bG ys) io') 0 vers []) [] m xs) rs ts m []:=rfl
theorem mc.nq {P:pR} {f:fI} {fn:Func} {c:Code} {io:List bf} {args:List AV} {post:AV→List bf→Prop} (hf:P.funcs[f]? =some fn) (hn:(fn.name== "runtime.NumGoroutine")=false) (hb:fn.body=some c)
 (hok:codeOk fn.ntmps c=true) (ha:args.length<=fn.ntmps) (hv:vc P fn.ntmps c (bH 0 args) (mj 0 io) (PA P fn.results.toList (io.map bf.af) post)):mc P f io args post:=by
 refine ⟨⟨fn,c,hf,hn,hb⟩,λw φ fp S vs hsz hR0=> ?_⟩;refine calls_of_wp hf hb ?_;have hRS:RS (HH w φ fp S io) fn.ntmps φ fp S (bH 0 args) (mj 0 io) {tmps:=vs++q2 (fn.ntmps-vs.size) undef,defers:=[]} w:=by
  refine {hR0 with tm:=λt=>?_,defers:=rfl,ly:=by simp;omega};by_cases h:t<args.length
  . have h1:=hR0.tm t;have:vs.getD t uD=(vs++q2 (fn.ntmps-vs.size) undef).getD t uD:=by
     have h2:t<vs.size:=(by omega);simp only[q0];rw[Array.getElem?_append_left h2]
    rw[←this];exact h1
  rw[bI];have:(if 0<=t then (args[t-0]?).getD AV.undef else .undef)= .undef:=by simp[q8 (show args.length<=t by omega)]
  rw[this];exact .rd _ _ (.undef _)
 have fW:∀a' w',ia (HH w φ fp S io) fn.ntmps (λts m=>aP P (λxs=>iO (λys m'=>aq ys=[]/\qT m' (λio'=>post (bG ys) io') 0 (io.map bf.af) []) [] m xs) fn.results.toList ts m []) a' w'→
  a'.defers=[]/\∃v,(results fn a'.tmps).run P w'= .ok v w'/\∃r v' io' φ' fp' S' m',Ending.returned v= .returned v'/\post r io'/\RS (HH w φ fp S io) 0 φ' fp' S' [] m' {tmps:= #[],defers:=[]} w'/\Lj io io' m'∧
   Rd w' S' r v':=by
  rintro a' w' ⟨DT,fp0,S0,ts',m0,h0,hk⟩;refine ⟨h0.defers,?_⟩;obtain ⟨ys0,us,h1,h2,h3,h4⟩:=cI h0 fn.results.toList [] [] ⟨rfl,λi hi=>absurd hi (q20 _)⟩ (λi hi=>absurd hi (q20 _)) hk;obtain ⟨φ',fp',S',m',ys,hgv,h3,gZ,h1⟩:=pM ys0 us [] [] h0 (by simpa using h3) ⟨rfl,λi hi=>absurd hi (q20 _)⟩ h1;have h':=hgv.rs;obtain ⟨h3a,h3b⟩:=h3;simp only[q15] at h3a h3b;obtain ⟨io',q1,q2,q3⟩:=CS _ _ _ h1;rw[List.reverse_nil,q15] at q1;refine ⟨if h:us.toArray.size=1 then us.toArray[0] else .tuple us.toArray,?_,bG ys,_,io',φ',fp',S',m',rfl,q1,?_,⟨by simpa using q2,λk hk hk'=>?_⟩,cR (mJ h3a h3b) (ij gZ)⟩
  . have hm:results fn a'.tmps=(do let vs ←fn.results.mapM (cW a'.tmps);pure (if h:vs.size=1 then vs[0] else .tuple vs)):=by
     unfold results;congr 1
    rw[hm,Sem.run_bind,Array.mapM_eq_mapM_toList];have:(List.toArray <$> fn.results.toList.mapM (cW a'.tmps):Sem aV).run P w'= .ok us.toArray w':=by rw[map_eq_pure_bind,Sem.run_bind,h2];rfl
    rw[this];rfl
  . exact {h' with tm:=λt=>by rw[look_nil];exact .rd _ _ (.undef _),tl:=λt l af hl=>(by rw[look_nil] at hl;cases hl),defers:=rfl,ly:=rfl}
  have:=q3 k hk (by simpa using hk');rw[q21] at this;refine ⟨this.1,?_,this.2.2⟩;rw[this.2.1,List.getElem_map]
 refine wp_mono (cB c _ _ _ hok hv _ _ _ _ _ _ hRS) ?_;intro e a' w' hq;cases e with
 |normal=>exact fW a' w' hq
 |ret=>exact fW a' w' hq
 |_=>obtain ⟨_,_,_,_,_,_,hh⟩:=hq;exact hh.elim
theorem mc.cT {P:pR}{f:fI}{fn:Func}{c:Code}{io:List bf}{args:lA}{post:AV->List bf->Prop}(N:Nat)(rs:List ResultVar)(hf:P.funcs[f]? =some fn)(hN:fn.ntmps=N:=by exact rfl)(hr:fn.results.toList=rs:=by exact rfl)
 (hn:(fn.name== "runtime.NumGoroutine")=false:=by exact rfl) (hb:fn.body=some c:=by exact rfl) (hok:codeOk N c=true:=by exact rfl) (ha:args.length≤N:=by exact oT rfl) (hv:vc P N c (bH 0 args) (mj 0 io) (PA P rs (io.map bf.af) post)):mc P f io args post:=by
 subst hN;subst hr;exact mc.nq hf hn hb hok ha hv
section
variable {P:pR} {B:eC} {N:Nat} {φ:Nat->LS} {fp:nN} {S:nP} {ts:Env} {m:Mem} {a:Act} {w:World}
theorem FE {f:fI}{ρ:lN}{io:List bf}{args xs:lA}(hnd:ρ.Nodup)(hio:io.length=ρ.length)
 (hlk:∀j (h:j<ρ.length) (h':j<io.length),ah m ρ[j]=some io[j]/\f_ io[j]) {vs:aV} (h:RS B N φ fp S ts m a w) (hvl:vs.size=args.length)
 (hx:∀i (h:i<args.length),RV w S (ov φ ρ) args[i] (vs.toList.getD i uD)/\∀l af,(l,af)∈ao args[i]->known (mj 0 io) l af) {post:AV->List bf->Prop} (hf:mc P f io args post):
 Calls P f vs w λe w'=>∃v r io' fp2 T,e= .returned v/\post r io'/\RS B N φ fp2 T ts (fG ρ io' m) a w'/\Rd w' T r v:=by
 have inj:∀i j (hi:i<ρ.length) (hj:j<ρ.length),ρ[i]=ρ[j]->i=j:=λi j hi hj e=>(List.getElem_inj hnd).1 e;have look0:∀l,ah (mj 0 io) l=if bE<=l then io[l-bE]? else none:=λl=>by rw[mF];rfl
 have at_:∀l b,ah (mj 0 io) l=some b->∃j,∃hj:j<ρ.length,∃hj':j<io.length,l=bE+j/\b=io[j]:=by
  intro l b hb;rw[look0] at hb;split at hb
  . rename_i hl;obtain ⟨hj,e⟩:=q9.1 hb;exact ⟨l-bE,by omega,hj,by omega,e.symm⟩
  cases hb
 have hR0:RS (HH w (ov φ ρ) (qf fp ρ) S io) vs.size (ov φ ρ) (qf fp ρ) S (bH 0 args) (mj 0 io) {tmps:=vs,defers:=[]} w:=by
  refine {tm:=λt=> ?_,tl:=λt l af hl=> ?_,ca:=λl hl=> ?_,aG:=λl b hb=> ?_,bl:=λl v xs hb l' af hl=> ?_,hZ:=λl=> ?_,fL:=λl l' b h1 h2=> ?_,
          bS:=λl b hb=>?_,cu:=λl b hb=>?_,sB:=λb hb=>⟨(h.sB b hb).1,.inr hb⟩,base:=λb _ _=>rfl,out:=a7.refl _,ky:=jI.refl _,kn:=λ_ _ _ hk=>hk,fix:=λ_ _ _ _=>LS.le_refl _ _,
          size:=q17 _,defers:=rfl,ly:=rfl,jx:=h.jx}
  . rw [bI];by_cases ht:t<args.length
    . have e:(if 0<=t then (args[t-0]?).getD AV.undef else .undef)=args[t]:=(by simp [ht]);rw [e];have:=(hx t ht).1;have e2:vs.toList.getD t uD=vs.getD t uD:=by
       simp[q6,q0]
      rw[←e2];exact this
    have e:(if 0<=t then (args[t-0]?).getD AV.undef else .undef)= .undef:=(by simp[q8 (show args.length<=t by omega)]);rw[e];exact .rd _ _ (.undef _)
  . rw [bI] at hl;by_cases ht:t<args.length
    . have e:(if 0<=t then (args[t-0]?).getD AV.undef else .undef)=args[t]:=(by simp[ht]);rw[e] at hl;exact (hx t ht).2 l af hl
    have e:(if 0<=t then (args[t-0]?).getD AV.undef else .undef)= .undef:=(by simp[q8 (show args.length<=t by omega)]);rw[e] at hl;cases hl
  . rw [look0] at hl;unfold ov qf;split at hl
    . rename_i hl';have:ρ[l-bE]? =none:=q8 (by have:=List.getElem?_eq_none_iff.1 hl;omega);rw[if_pos hl',if_pos hl',this];exact ⟨rfl,rfl⟩
    rename_i hl';rw[if_neg hl',if_neg hl'];exact ⟨rfl,rfl⟩
  . obtain ⟨j,hj,hj',rfl,rfl⟩:=at_ l b hb;have hb0:=h.aG ρ[j] _ (hlk j hj hj').1;have hfr:=(hlk j hj hj').2;rw [wo fp hj];generalize io[j]=b at hb0 hfr;cases b with
    |gone v=>exact ⟨by rw[ga φ hj];exact hb0.1,hb0.2⟩
    |row v sh dp xs=>
     rcases hb0 with ⟨q1,q2,q3⟩|⟨b,cap,q1,q2⟩
     . exact .inl ⟨by rw[ga φ hj];exact q1,q2,q3⟩
     exact .inr ⟨b,cap,by rw[ga φ hj];exact q1,q2⟩
    |ke v xs i u=>exact hfr.elim
    |sub v sh xs u=>exact hfr.elim
    |box v xs=>
     obtain ⟨b,cs,e,sh,q1,q2,q3,q4,q5,q6⟩:=hb0;exact ⟨b,cs,e,sh,by rw[ga φ hj];exact q1,q2,q3,q4,q5,λi hi=>.rd _ _ (cR (q6 i hi) (bO hfr i hi))⟩
  . obtain ⟨j,hj,hj',rfl,e⟩:=at_ l _ hb;have hfr:=(hlk j hj hj').2;rw[←e] at hfr;have hfr:aq xs=[]:=hfr;rw[hfr] at hl;cases hl
  . unfold qf;split
    . split
      . exact h.hZ _
      exact q16
    exact q16
  . obtain ⟨i,hi,rfl,b1⟩:=gW h1;obtain ⟨j,hj,rfl,b2⟩:=gW h2;have:=inj i j hi hj (h.fL _ _ b b1 b2);subst this;rfl
  . obtain ⟨i,hi,rfl,b1⟩:=gW hb;exact h.bS _ b b1
  obtain ⟨i,hi,rfl,b1⟩:=gW hb;exact ⟨(h.cu _ b b1).1,.inr ⟨_,hb,by omega,.inl rfl⟩⟩
 refine (hf.2 w (ov φ ρ) (qf fp ρ) S vs hvl hR0).mono ?_;rintro e w' ⟨r,v,io',φ',fp',S',m',rfl,gP,hR,⟨hl',hok⟩,hrd⟩;have hl2:io'.length=ρ.length:=hl'.trans hio;have i_:∀b:Nat,b<w.heap.size->(∀j (hj:j<ρ.length),b∉fp ρ[j])->w'.heap[b]? =w.heap[b]? :=λb hb hn=>hR.base b hb λl hb'=>by obtain ⟨j,hj,rfl,hb2⟩:=gW hb';exact hn j hj hb2
 have lu:∀b,S b->w'.heap[b]? =w.heap[b]? :=λb hb=>i_ b (h.sB b hb).1 λj hj hb'=>h.bS _ b hb' hb;have hz:fX φ w w':=λl b sh af cs e _ hb=>hR.ky b cs e hb;have hm2:=λl=>lP (m:=m) ρ io' hl2 hnd l;have hkn:∀l af,known m l af->known (fG ρ io' m) l af:=by
  rintro l af ⟨k',h1,h2⟩;by_cases hl:l∈ρ
  . obtain ⟨j,hj,rfl⟩:=q10 hl;have e:=(hm2 ρ[j]).1 j hj rfl;rw[q7 (by omega)] at e;rw[(hlk j hj (by omega)).1] at h1;have h1:=Option.some.inj h1;exact ⟨_,e,by rw[(hok j (by omega) (by omega)).2.1,h1];exact h2⟩
  exact ⟨k',((hm2 l).2 hl).trans h1,h2⟩
 let T:Nat->Prop:=λb=>S b\/(S' b/\w.heap.size<=b);have hST:∀b,S' b->T b:=λb hb=>by
  rcases (hR.sB b hb).2 with hh|hh
  . exact .inr ⟨hb,hh⟩
  exact .inl hh
 let fp2:Nat->lN:=λl=>match ρ.idxOf? l with|some j=>fp' (bE+j)|none=>fp l
 have fp2in:∀j (hj:j<ρ.length),fp2 ρ[j]=fp' (bE+j):=by
  intro j hj;have:ρ.idxOf? ρ[j]=some j:=by rw[List.idxOf?,List.findIdx?_eq_some_iff_getElem];refine ⟨hj,by simp,λi hi=>?_⟩;simp only[beq_iff_eq];intro e2;have:=inj i j (by omega) hj e2;omega
  show (match ρ.idxOf? ρ[j] with|some j=>fp' (bE+j)|none=>fp ρ[j])=_;rw[this]
 have fp2out:∀l,l∉ρ->fp2 l=fp l:=by
  intro l hl;have:ρ.idxOf? l=none:=by simpa [List.idxOf?_eq_none_iff] using hl
  show (match ρ.idxOf? l with|some j=>fp' (bE+j)|none=>fp l)=_;rw[this]
 have fpnew:∀j (hj:j<ρ.length) b,b∈fp' (bE+j)->b<w'.heap.size/\(w.heap.size<=b\/b∈fp ρ[j]):=by
  intro j hj b hb;have:=hR.cu _ b hb;refine ⟨this.1,this.2.imp id λhh=>?_⟩;obtain ⟨l',hb2,_,hl3⟩:=hh;have hl3:l'=bE+j:=hl3.resolve_right λe=>by have e:ah (mj 0 io) (bE+j)=none:=e;rw[look0,if_pos (by omega),List.getElem?_eq_none_iff] at e;omega
  subst hl3;have hh:b∈qf fp ρ (bE+j):=hb2
  rwa [wo fp hj] at hh
 have hRS:RS B N φ fp2 T ts (fG ρ io' m) a w':=by
  refine {tm:=λt=>(h.tm t).mono lu (λb hb=>.inl hb) hz λl af _=>LS.le_refl _ _,tl:=λt l af hl=>hkn l af (h.tl t l af hl),ca:=λl hl=> ?_,aG:=λl b hb=> ?_,
          bl:=λl v xs hb l' af hl=>?_,hZ:=λl=>?_,fL:=λl l' b h1 h2=>?_,bS:=λl b hb=>?_,cu:=λl b hb=>?_,sB:=λb hb=>?_,base:=λb hb hio=>?_,
          out:=h.out.trans hR.out,ky:=h.ky.trans hR.ky,kn:=λl af hl hk=>hkn l af (h.kn l af hl hk),fix:=h.fix,size:=q18 h.size hR.size,defers:=h.defers,ly:=h.ly,jx:=h.jx.mono lu λb hb=>.inl hb}
  . by_cases hm:l∈ρ
    . obtain ⟨j,hj,rfl⟩:=q10 hm;rw[(hm2 ρ[j]).1 j hj rfl,q7 (by omega)] at hl;cases hl
    rw[(hm2 l).2 hm] at hl;rw[fp2out l hm];exact h.ca l hl
  . by_cases hm:l∈ρ
    . obtain ⟨j,hj,rfl⟩:=q10 hm;rw [(hm2 ρ[j]).1 j hj rfl,q7 (by omega)] at hb;have hb:=Option.some.inj hb;subst hb;obtain ⟨g1,g2,g3⟩:=hok j (by omega) (by omega);have hB:=hR.aG _ _ g1;have Wd:known (mj 0 io) (bE+j) (io[j]'(by omega)).af:=⟨io[j]'(by omega),by rw [look0,if_pos (by omega)];simp<;>omega,q17 _⟩;have rI:=hR.fix (bE+j) _ (by omega) Wd;have rI:LS.le (φ' (bE+j)) (φ ρ[j]) (io[j]'(by omega)).af:=(by rw [←ga φ hj];exact rI);rw [fp2in j hj];rw [←g2] at rI;generalize io'[j]=b at hB rI g3;cases b with
      |gone v=>exact g3.elim
      |row v sh dp xs=>
       rcases hB with ⟨q1,q2,q3⟩|⟨b,cap,q1,q2,q3,q4⟩
       . exact .inl ⟨rI.2 q1,q2,q3⟩
       refine .inr ⟨b,cap,rI.1 _ _ q1,q2,q3,?_⟩;cases dp with
       |true=>exact q4
       |false=>exact q4.mono (λ_ _=>rfl) hST (λ_ _=>rfl)
      |ke v xs i u=>exact g3.elim
      |sub v sh xs u=>exact g3.elim
      |box v xs=>
       obtain ⟨b,cs,e,sh,q1,q2,q3,q4,q5,q6⟩:=hB;exact ⟨b,cs,e,sh,rI.1 _ _ q1,q2,q3,q4,q5,λi hi=>.rd _ _ ((cR (q6 i hi) (bO g3 i hi)).mono (λ_ _=>rfl) hST)⟩
    rw[(hm2 l).2 hm] at hb;rw[fp2out l hm];refine (h.aG l b hb).mono lu (λb hb=>.inl hb) hz (λc hc=>i_ c (h.cu l c hc).1 λj hj hc'=>hm ?_) rfl λ_ _ _ _ _ _=>LS.le_refl _ _;rw[h.fL _ _ c hc hc'];exact List.getElem_mem hj
  . by_cases hm:l∈ρ
    . obtain ⟨j,hj,rfl⟩:=q10 hm;rw[(hm2 ρ[j]).1 j hj rfl,q7 (by omega)] at hb;have hb:=Option.some.inj hb;have g3:=(hok j (by omega) (by omega)).2.2;rw[hb] at g3;have g3:aq xs=[]:=g3;rw[g3] at hl;cases hl
    rw[(hm2 l).2 hm] at hb;exact hkn l' af (h.bl l v xs hb l' af hl)
  . by_cases hm:l∈ρ
    . obtain ⟨j,hj,rfl⟩:=q10 hm;rw[fp2in j hj];exact hR.hZ _
    rw[fp2out l hm];exact h.hZ l
  . have mixed:∀j (hj:j<ρ.length) l,l∉ρ->b∈fp' (bE+j)->b∈fp l->False:=by
     intro j hj l hm b1 b2;rcases (fpnew j hj b b1).2 with hh|hh
     . have:=(h.cu l b b2).1;omega
     exact hm (by rw[h.fL _ _ b b2 hh];exact List.getElem_mem hj)
    by_cases m1:l∈ρ
    . obtain ⟨j,hj,rfl⟩:=q10 m1;rw [fp2in j hj] at h1;by_cases m2:l'∈ρ
      . obtain ⟨j',hj',rfl⟩:=q10 m2;rw[fp2in j' hj'] at h2;have:=hR.fL _ _ b h1 h2;have:j=j':=(by omega);subst this;rfl
      rw[fp2out l' m2] at h2;exact (mixed j hj l' m2 h1 h2).elim
    rw[fp2out l m1] at h1;by_cases m2:l'∈ρ
    . obtain ⟨j',hj',rfl⟩:=q10 m2;rw[fp2in j' hj'] at h2;exact (mixed j' hj' l m1 h2 h1).elim
    rw[fp2out l' m2] at h2;exact h.fL l l' b h1 h2
  . by_cases hm:l∈ρ
    . obtain ⟨j,hj,rfl⟩:=q10 hm;rw [fp2in j hj] at hb;rintro (hs|hs)
      . rcases (fpnew j hj b hb).2 with hh|hh
        . have:=(h.sB b hs).1;omega
        exact h.bS _ b hh hs
      exact hR.bS _ b hb hs.1
    rw[fp2out l hm] at hb;rintro (hs|hs)
    . exact h.bS l b hb hs
    have:=(h.cu l b hb).1;omega
  . by_cases hm:l∈ρ
    . obtain ⟨j,hj,rfl⟩:=q10 hm;rw [fp2in j hj] at hb;have:=fpnew j hj b hb;refine ⟨this.1,?_⟩;rcases this.2 with hh|hh
      . exact .inl (q18 h.size hh)
      exact (h.cu _ b hh).2
    rw[fp2out l hm] at hb;have:=h.cu l b hb;exact ⟨q19 this.1 hR.size,this.2⟩
  . rcases hb with hs|hs
    . have:=h.sB b hs;exact ⟨q19 this.1 hR.size,this.2⟩
    exact ⟨(hR.sB b hs.1).1,.inl (q18 h.size hs.2)⟩
  refine (i_ b (q19 hb h.size) λj hj hb'=>?_).trans (h.base b hb hio);rcases (h.cu _ b hb').2 with hh|hh
  . omega
  exact hio _ hh.choose_spec.1
 exact ⟨v,r,io',fp2,T,rfl,gP,hRS,hrd.mono (λ_ _=>rfl) hST⟩
end
def sM (P:pR)(f:fI)(ρ:lN)(io:List bf)(args:lA)(m:Mem)(k:AV->Mem->Prop)(_:Pack k):Prop:=
 ∃post,mc P f io args post/\∀r io',post r io'->k r (fG ρ io' m)
@[congr] theorem Ro {P:pR} {f:fI} {ρ:lN} {io io':List bf} {args args':lA} {m:Mem} {k:AV->Mem->Prop} {q:Pack k} (h:io=io') (h':args=args'):sM P f ρ io args m k q=sM P f ρ io' args' m k q:=by rw[h,h']
theorem bY {P:pR}{f:fI}{ρ:lN}{io:List bf}{args:lA}{post:AV->List bf->Prop}{m:Mem}{k:AV->Mem->Prop}(h:mc P f io args post)(hk:∀r io',post r io'->k r (fG ρ io' m)){q:Pack k}:sM P f ρ io args m k q:=
 ⟨_,h,hk⟩
theorem FF {P:pR}{f:fI}{xs:lA}{m:Mem}{k:AV->Mem->Prop}(ρ:lN)(h:oY m (λio=>og ρ (λargs=>sM P f ρ io args m k ⟨⟩) [] xs) [] ρ):hU P f xs m k:=by refine λB N φ fp S ts a w vs hRS hsz hx hxl=>?_;obtain ⟨hnd,io,h1,h2,h3⟩:=xX ρ [] h;rw[List.reverse_nil,q15] at h1;obtain ⟨args,g1,g2,g3⟩:=xZ (w:=w) (S:=S) (φ:=φ) h2 h3 xs vs.toList [] (by simpa using hsz) hx hxl h1;rw[List.reverse_nil,q15] at g1;obtain ⟨post,hf,hk⟩:=g1;refine ⟨hf.1,(FE hnd h2 h3 hRS (hsz.trans g2.symm) g3 hf (xs:=xs)).mono ?_⟩;rintro e w' ⟨v,r,io',fp2,T,rfl,gP,hR,hrd⟩;exact ⟨v,rfl,φ,fp2,T,ts,_,r,hR,.rd _ _ hrd,λl af hl=>(by rw[fY hrd] at hl;cases hl),rfl,hk r io' gP⟩
theorem cX {P:pR}{f:fI}{d:Nat}{xs ts:lA}{m:Mem}{k:AV->Mem->Prop}(ρ:lN)(h:oY m (λio=>og ρ (λargs=>sM P f ρ io args m k ⟨⟩) [] xs) [] ρ){q:Pack k}:eo P f d xs ts m k q:=
 .inl (FF ρ h)
attribute [go_sem] Mb
section
variable {P:pR} {N:Nat} {ts:Env} {m:Mem}
theorem RS.Vt {B:eC}{φ:Nat->LS}{fp:nN}{S:nP}{a:Act}{w:World}(hRS:RS B N φ fp S ts m a w)(lb vb j l v i n:Nat)(sh:Sh)(d:Bool)(xs ys:lA)(hl:l<bE)(hb:ah m lb=some (.box vb xs))(hx:xs[j]? =some (.ref l v i n))
 (hm:ah m l=some (.row v sh d ys)) (hn:i+n<=ys.length):
 RS B N (u7 l φ) (Hs l fp) (λb=>S b\/b∈fp l) ts ((lb,.box vb (xs.set j (.arr sh ((ys.drop i).take n))))::(l,.gone v)::m) a w:=by
 have hf:=hRS.X3 hl hm (v:=v) rfl;have hne:lb≠l:=by rintro rfl;rw[hb] at hm;cases hm
 obtain ⟨hj,hx'⟩:=q9.1 hx;obtain ⟨b,cs,e,sh2,h1,h2,h3,h4,h5,h6⟩:=hRS.aG lb _ hb;have hrd:=CO hRS hl hm hn (hx'▸h6 j hj);have hb2:ah ((l,bf.gone v)::m) lb=some (.box vb xs):=by rw[aw,if_neg (Ne.symm hne)];exact hb
 have hkn:∀k af,known ((l,bf.gone v)::m) k af->known ((lb,.box vb (xs.set j (.arr sh ((ys.drop i).take n))))::(l,.gone v)::m) k af:=by
  rintro k af ⟨b0,g1,g2⟩;by_cases e:lb=k
  . subst e;rw [hb2] at g1;injection g1 with g1;subst g1
    exact ⟨.box vb (xs.set j (.arr sh ((ys.drop i).take n))),by rw[aw,if_pos rfl],g2⟩
  exact ⟨b0,by rw[aw,if_neg e];exact g1,g2⟩
 refine {hf with tl:=λt k af hk=>hkn k af (hf.tl t k af hk),ca:=λk hk=>?_,aG:=λk b0 hk=>?_,bl:=λk v' zs hk k' af hl'=>?_,kn:=λk af hk hk2=>hkn k af (hf.kn k af hk hk2)}
 . rw [aw] at hk;split at hk
   . cases hk
   exact hf.ca k hk
 . rw [aw] at hk;split at hk
   . rename_i e0;subst e0;injection hk with hk
     subst hk;obtain ⟨b',cs',e',sh',g1,g2,g3,g4,g5,g6⟩:=hf.aG lb _ hb2;refine ⟨b',cs',e',sh',g1,g2,g3,by simpa using g4,λq hq=>?_,λq hq=>?_⟩
     . rw [List.getElem_set];split
       . trivial
       exact g5 q (by simpa using hq)
     rw[List.getElem_set];split
     . rename_i e2;subst e2;refine .rd _ _ ?_;have hbb:b'=b:=by
        have:u7 l φ lb=φ lb:=r7 hne;rw[this,h1] at g1;cases g1;rfl
       subst hbb;rw[h3] at g3;injection g3 with g3;injection g3 with g3 _ _
       subst g3;exact hrd
     exact g6 q (by simpa using hq)
   exact hf.aG k b0 hk
 rw[aw] at hk;split at hk
 . rename_i e0;injection hk with hk
   injection hk with _ hk
   subst hk;obtain ⟨q,hq,hlq⟩:=bM hl';rw[List.getElem_set] at hlq;split at hlq
   . cases hlq
   have hq2:q<xs.length:=(by simpa using hq);exact hkn k' af (hf.bl lb vb xs hb2 k' af (bq hq2 hlq))
 exact hkn k' af (hf.bl k v' zs hk k' af hl')
theorem aj.Vt {code:Code}{Q:de}{q:Pack (code,Q)}(lb vb j l v i n:Nat)(sh:Sh)(d:Bool)(xs ys:lA)(hl:l<bE)(hb:ah m lb=some (.box vb xs))(hx:xs[j]? =some (.ref l v i n))
 (hm:ah m l=some (.row v sh d ys)) (hn:i+n<=ys.length)
 (h:aj P N code ts ((lb,.box vb (xs.set j (.arr sh ((ys.drop i).take n))))::(l,.gone v)::m) Q q):aj P N code ts m Q q:=
 ⟨λB φ fp S a w hRS=>h.ok B _ _ _ a w (hRS.Vt lb vb j l v i n sh d xs ys hl hb hx hm hn)⟩
end
section
variable {P:pR} {B:eC} {N:Nat} {φ:Nat->LS} {fp:nN} {S:nP} {ts:Env} {m:Mem} {a:Act} {w:World}
theorem pc {f:fI}{d:Nat}{xs xt:lA}{m:Mem}{k:AV->Mem->Prop}{q:Pack k}{fn:Func}{c:Code}(K J:Nat)(N:Nat)(rs:List ResultVar)(hf:P.funcs[f]? =some fn)(hN:fn.ntmps=N)(hr:fn.results.toList=rs)
 (hn:(fn.name== "runtime.NumGoroutine")=false) (hb:fn.body=some c) (hok:codeOk N c=true) (ha:xs.length≤N)
 (hv:(o4 (e7 K [] m) m/\qD (kT (e7 K [] m) m))/\vc P N c (bH 0 (mI (e7 K [] m) xs)) (kT (e7 K [] m) m)
   (OM P rs λx m'=>sy (e7 J [] m')/\k (sw (e7 K [] m) (qg (e7 J [] m') x)) (sv (e7 K [] m) (kT (e7 J [] m') m')))):eo P f d xs xt m k q:=by
 subst hN;subst hr;refine .inl λB N φ fp S ts a w vs hRS hsz hx hxl=>⟨⟨fn,c,hf,hn,hb⟩,?_⟩;refine (tG J hf hb hok _ hRS hv.1.1 hv.1.2 ha hsz hx hxl hv.2).mono ?_;rintro e w' ⟨v,rfl,φ',fp',S',m',x,g1,g2,g3,g4,_⟩;exact ⟨v,rfl,φ',fp',S',ts,m',x,g1,g2,g3,rfl,g4⟩
end
inductive WW (m:Mem):Mem->Prop
 |refl:WW m m
 |box (lb vb j l v i n:Nat) (sh:Sh) (d:Bool) (xs ys:List AV) (hl:l<bE) (hb:ah m lb=some (.box vb xs)) (hx:xs[j]? =some (.ref l v i n)) (hm:ah m l=some (.row v sh d ys)) (hn:i+n<=ys.length):
   WW m ((lb,.box vb (xs.set j (.arr sh ((ys.drop i).take n))))::(l,.gone v)::m)
end Go.Vc
