import Derived.StillTail
import Derived.ProofKit
import Derived.OpenShut
import Derived.ChangeOld
import Derived.Below
import Derived.Carry
import Derived.Deep.Slices
import Derived.Test.YtofpaabacebkkaaGreatDoorRows
import Derived.Test.YtofpaabacebkkaaGreatDoorCards
import Derived.Test.YtofpaabacebkkaaGreatDoorTie
import Derived.Lay
import Derived.LaidMore
import Derived.Stop.LaidErr
import Derived.Lib.LaidTab
import Derived.Shelf.Vars
import Derived.SevenTiedAt
import Derived.SizedLaws
import Derived.Sort.Grow
import Derived.Laws.IdiomCopy
import Derived.Deep.Draws
import Derived.Test.YtofpaabacebkkaaGreatDoorPkLawConsoleLinesB
open Go.Proofs.Tryz
open Go.Proofs.Tryz renaming prog → pG
open Go renaming undef → uD
set_option linter.unusedVariables false
set_option linter.unusedSimpArgs false
set_option linter.unnecessarySimpa false
set_option maxRecDepth 1000000
set_option maxHeartbeats 16000000
open Array renaming getD_eq_getD_getElem? ->q0,getElem?_eq_some_iff->q1,replicate->q2
open Bool renaming false_eq_true->q3
open List renaming all_eq_true->q4,eq_nil_of_length_eq_zero->q5,getD_eq_getElem?_getD->q6,getElem?_eq_getElem->q7,getElem?_eq_none->q8,getElem?_eq_some_iff->q9,getElem_of_mem->q10,mem_cons->q11,mem_cons_of_mem->q12,mem_cons_self->q13,mem_map->q14,nil_append->q15,nodup_nil->q16
open Nat renaming le_refl->q17,le_trans->q18,lt_of_lt_of_le->q19,not_lt_zero->q20,zero_add->q21
namespace Go.Vc
def D1 {α:Type} (G:(α->Prop)->Prop):Prop:=∀k,G k->∃x,k x/\∀k',k' x->G k'
theorem D1.pure {α:Type} (x:α):D1 λk=>k x:=λ_ h=>⟨x,h,λ_ h=>h⟩
theorem D1.no {α:Type}:D1 λ_:α->Prop=>False:=λ_ h=>h.elim
theorem D1.and {α:Type} {G:(α->Prop)->Prop} (p:Prop) (h:D1 G):D1 λk=>p/\G k:=λk hk=>
 have ⟨x,h1,h2⟩:=h k hk.2
 ⟨x,h1,λk' hk'=>⟨hk.1,h2 k' hk'⟩⟩
theorem D1.bind {α β:Type} {G:(α->Prop)->Prop} {H:α->(β->Prop)->Prop} (h:D1 G) (h':∀x,D1 (H x)):D1 λk=>G λx=>H x k:=λk hk=>
 have ⟨x,h1,h2⟩:=h _ hk;have ⟨y,g1,g2⟩:=h' x k h1
 ⟨y,g1,λk' hk'=>h2 _ (g2 k' hk')⟩
theorem D1.opt (o:Option AV):D1 (kc o):=by
 cases o with
 |none=>exact D1.no
 |some x=>exact D1.pure x
theorem D1.XP (o:Option (Nat × Nat × Bool)):D1 (te o):=by
 cases o with
 |none=>exact D1.no
 |some x=>exact D1.pure x
theorem D1.ti (o:Option TI):D1 (eo o):=by
 cases o with
 |none=>exact D1.no
 |some x=>exact D1.pure x
theorem D1.ifs {α:Type} (c:Bool) (x y:α):D1 λk:α->Prop=>(c=true->k x)/\(c=false->k y):=by
 intro k hk;cases c with
 |true=>exact ⟨x,hk.1 rfl,λk' hk'=>⟨λ_=>hk',λh=>(by cases h)⟩⟩
 |false=>exact ⟨y,hk.2 rfl,λk' hk'=>⟨λh=>(by cases h),λ_=>hk'⟩⟩
theorem D1.pick (c a b:AV):D1 (qe c a b):=by
 unfold qe;split
 . exact D1.ifs _ _ _
 exact D1.no
theorem D1.wrap (i:IntKind) (n:Int):D1 (jb i n):=by
 unfold jb;split
 . exact D1.and _ (D1.pure _)
 exact D1.pure _
theorem D1.fw (op:BinOp) (i:IntKind) (x y:Int):D1 (fw op i x y):=by
 unfold Go.Vc.fw
 split<;>first
  |exact D1.wrap _ _
  |exact D1.pure _
  |exact D1.and _ (D1.wrap _ _)
  |exact D1.and _ (D1.pure _)
  |exact D1.no
theorem D1.kE (op:BinOp) (x y:ByteArray):D1 (kE op x y):=by
 unfold Go.Vc.kE
 split<;>first
  |exact D1.pure _
  |exact D1.and _ (D1.pure _)
  |exact D1.no
theorem D1.bin (op:BinOp) (kd:TK) (a b:AV):D1 (kF op kd a b):=by
 unfold kF;split
 . exact D1.and _ (D1.fw _ _ _ _)
 . exact D1.kE _ _ _
 . split<;>first|exact D1.pure _|exact D1.no
 exact D1.no
theorem D1.not (a:AV):D1 (zx a):=by unfold zx;split<;>first|exact D1.pure _|exact D1.no
theorem D1.neg (a:AV):D1 (Cx a):=by unfold Cx;split<;>first|exact D1.wrap _ _|exact D1.no
theorem D1.conv (d:TK) (a:AV):D1 (ur d a):=by unfold ur;split<;>first|exact D1.wrap _ _|exact D1.pure _|exact D1.no
theorem D1.max (a b:AV):D1 (zy a b):=by unfold zy;split<;>first|exact D1.pure _|exact D1.no
theorem D1.min (a b:AV):D1 (mW a b):=by unfold mW;split<;>first|exact D1.pure _|exact D1.no
theorem D1.aX (i:Nat) (a:AV):D1 (zz i a):=by unfold zz;split<;>first|exact D1.opt _|exact D1.no
theorem D1.part (ag:Bool) (n j:Nat) (x:AV):D1 (de ag n j x):=by unfold de;split<;>first|exact D1.opt _|exact D1.and _ (D1.pure _)|exact D1.no
theorem D1.Wl (ag:Bool) (n j:Nat) (x:AV):D1 (nh ag n j x):=by unfold nh;split<;>first|exact D1.part _ _ _ _|exact D1.no
theorem D1.index (x i:AV):D1 (mZ x i):=by unfold mZ;split<;>first|exact D1.and _ (D1.pure _)|exact D1.no
theorem D1.cells (x:AV):D1 (eQ x):=by unfold eQ;split<;>first|exact D1.pure _|exact D1.no
theorem D1.fill (fs:List (Nat × Nat × Bool)):∀(ps:List (Nat × AV)) (cells:lA),D1 λk=>mw fs cells k ps
 | [],cells=>D1.pure cells
 |(i,x)::r,cells=>D1.bind (H:=λ(fd:Nat × Nat × Bool) k=>eQ x λys=>ys.length=fd.2.1/\fd.1+ys.length<=cells.length/\mw fs (jf cells fd.1 ys) k r) (D1.XP _) λfd=>
    D1.bind (H:=λ(ys:lA) k=>ys.length=fd.2.1/\fd.1+ys.length<=cells.length/\mw fs (jf cells fd.1 ys) k r) (D1.cells x) λys=>D1.and _ (D1.and _ (D1.fill fs r _))
theorem D1.build (ti:TI) (ps:List (Nat × AV)):D1 (qI ti ps):=
 D1.bind (H:=λ(zs:lA) k=>mw ti.fields zs (λcs=>k (AV.agg cs)) ps) (D1.cells _) λzs=>D1.bind (G:=λk=>mw ti.fields zs k ps) (H:=λ(cs:lA) k=>k (AV.agg cs)) (D1.fill _ _ _) λcs=>D1.pure (AV.agg cs)
theorem D1.TT (sh:Sh):∀(ps:List (Nat × AV)) (xs:lA),D1 λk=>nd sh xs k ps
 | [],xs=>D1.pure xs
 |(i,x)::r,xs=>D1.and _ (D1.and _ (D1.and _ (D1.TT sh r _)))
theorem D1.live (v:Nat) (b:Option bc) (x:AV):D1 λk:AV->Prop=>ga v b (k x):=by unfold ga;split<;>first|exact D1.and _ (D1.pure _)|exact D1.no
theorem D1.nil (m:Mem) (x:AV):D1 (rZ m x):=by unfold rZ;split<;>first|exact D1.live _ _ _|exact D1.pure _|exact D1.no
theorem D1.field (j:Nat) (m:Mem) (x:AV):D1 (ib j m x):=by unfold ib;split<;>first|exact D1.live _ _ _|exact D1.pure _|exact D1.no
theorem D1.len (kd:TK) (m:Mem) (x:AV):D1 (mY kd m x):=by unfold mY;split<;>first|exact D1.live _ _ _|exact D1.pure _|exact D1.no
theorem D1.Y_ {α:Type} (sh:Sh) (v:Nat) (b:Option bc) {G:(α->Prop)->Prop} (h:D1 G):D1 λk=>CG sh v b (G k):=by unfold CG;split<;>first|exact D1.and _ (D1.and _ h)|exact D1.no
theorem D1.V_ (x:Option AV) (d:Int):D1 (mq x d):=by unfold mq;split<;>first|exact D1.pure _|exact D1.no
theorem D1.XQ (sh:Sh) (l v i0 n:Nat) (i:Int) (b:Option bc):D1 (ql sh l v i0 n i b):=by unfold ql;split<;>first|exact D1.and _ (D1.and _ (D1.and _ (D1.pure _)))|exact D1.and _ (D1.and _ (D1.and _ (D1.and _ (D1.pure _))))|exact D1.no
theorem D1.idx (sh:Sh) (m:Mem) (x i:AV):D1 (oK sh m x i):=by unfold oK;split<;>first|exact D1.and _ (D1.and _ (D1.pure _))|exact D1.XQ _ _ _ _ _ _ _|exact D1.no
theorem D1.slice (sh:Sh) (x:AV) (lo hi:Option AV) (m:Mem):D1 (fO sh x lo hi m):=by
 unfold fO;split
 . exact D1.bind (D1.V_ _ _) λl=>D1.bind (D1.V_ _ _) λh=>D1.and _ (D1.pure _)
 . exact D1.bind (D1.V_ _ _) λl=>D1.bind (D1.V_ _ _) λh=>D1.and _ (D1.and _ (D1.pure _))
 . exact D1.Y_ _ _ _ (D1.bind (D1.V_ _ _) λl=>D1.bind (D1.V_ _ _) λh=>D1.and _ (D1.pure _))
 exact D1.no
theorem D1.U4 (m:Mem) (x:AV):D1 (jz m x):=by unfold jz;split<;>first|exact D1.pure _|exact D1.live _ _ _|exact D1.and _ (D1.pure _)
theorem D1.OF:∀(xs:lA) (acc:lU),D1 λk=>jB k acc xs
 | [],_=>D1.pure _
 |x::r,acc=>by
  cases x<;>try exact D1.no
  rename_i v;cases v<;>try exact D1.no
  rename_i i z;cases i<;>try exact D1.no
  exact D1.and _ (D1.OF r _)
theorem D1.bytes (y:AV):D1 (oO y):=by unfold oO;split<;>first|exact D1.OF _ _|exact D1.no
theorem D1.Y' (y:AV):D1 (EF y):=by unfold EF;split<;>first|exact D1.and _ (D1.pure _)|exact D1.no
theorem D1.xx {α:Type} (kd:TK) {G:(α->Prop)->Prop} (h:D1 G):D1 λk=>Vc.xx kd (G k):=by unfold Vc.xx;split<;>first|exact h|exact D1.no
theorem D1.Za (P:Program) (tt:TI) (x:AV) (lo hi:Option AV) (m:Mem):D1 (ng P tt x lo hi m):=by
 unfold ng;split
 . exact D1.and _ (D1.slice _ _ _ _ _)
 . exact D1.and _ (D1.bind (D1.ti _) λti=>D1.slice _ _ _ _ _)
 exact D1.no
theorem D1.mH (sh:Sh) (v i n:Nat) (b:Option bc):D1 (rS sh v i n b):=by unfold rS;split<;>first|exact D1.and _ (D1.and _ (D1.and _ (D1.pure _)))|exact D1.no
theorem D1.src (sh:Sh) (y:AV) (m:Mem):D1 (qH sh y m):=by unfold qH;split<;>first|exact D1.and _ (D1.pure _)|exact D1.mH _ _ _ _ _
def NL (x:AV) (l:Nat):Prop:=∃af,(l,af)∈ao x
theorem NL.ref (l v i n:Nat):NL (.ref l v i n) l:=⟨v,by simp [ao]⟩
theorem NL.ptr (l v i j:Nat):NL (.ptr l v i j) l:=⟨v,by simp [ao]⟩
def j0 (R:nP) (m m':Mem):Prop:=∀l,R l->ah m' l=ah m l
theorem OG {m m':Mem} {x:AV} (h:j0 (NL x) m m'):rZ m' x=rZ m x:=by funext k;unfold rZ;split<;>first|rfl|exact congrArg (λb=>ga _ b _) (h _ (NL.ptr _ _ _ _))
theorem HG {m m':Mem} {x:AV} (j:Nat) (h:j0 (NL x) m m'):ib j m' x=ib j m x:=by funext k;unfold ib;split<;>first|rfl|exact congrArg (λb=>ga _ b _) (h _ (NL.ptr _ _ _ _))
theorem OH {m m':Mem} {x:AV} (kd:TK) (h:j0 (NL x) m m'):mY kd m' x=mY kd m x:=by funext k;unfold mY;split<;>first|rfl|rw [h _ (NL.ref _ _ _ _)]
theorem OI {m m':Mem} {x:AV} (sh:Sh) (i:AV) (h:j0 (NL x) m m'):oK sh m' x i=oK sh m x i:=by funext k;unfold oK;split<;>first|rfl|rw [h _ (NL.ref _ _ _ _)]
theorem HH {m m':Mem} {x:AV} (sh:Sh) (lo hi:Option AV) (h:j0 (NL x) m m'):fO sh x lo hi m'=fO sh x lo hi m:=by funext k;unfold fO;split<;>first|rfl|rw [h _ (NL.ref _ _ _ _)]
theorem E6 {m m':Mem} {x:AV} (h:j0 (NL x) m m'):jz m' x=jz m x:=by funext k;unfold jz;split<;>first|rfl|rw [h _ (NL.ref _ _ _ _)]
theorem OJ {P:Program} {tt:TI} {m m':Mem} {x:AV} (lo hi:Option AV) (h:j0 (NL x) m m'):ng P tt x lo hi m'=ng P tt x lo hi m:=by funext k;unfold ng;simp only [HH _ _ _ h]
theorem OK {m m':Mem} {x:AV} (sh:Sh) (h:j0 (NL x) m m'):qH sh x m'=qH sh x m:=by funext k;unfold qH;split<;>first|rfl|rw [h _ (NL.ref _ _ _ _)]
theorem qN {m m':Mem} {x:AV} (h:j0 (NL x) m m'):fA m' x=fA m x:=by funext k;unfold fA;split<;>first|rfl|rw [h _ (NL.ref _ _ _ _)]
theorem sr {m m':Mem} (k:lA->Prop):∀(xs acc:lA),(∀x,x∈xs->j0 (NL x) m m')->cV m' k acc xs=cV m k acc xs
 | [],acc,_=>rfl
 |x::r,acc,h=>by simp only [cV];rw [qN (h x (q13 ..))];congr 1;funext y;exact sr k r _ λz hz=>h z (q12 _ hz)
theorem K_ {m m':Mem} {x:AV} (h:j0 (NL x) m m'):iA m' x=iA m x:=by
 funext k;cases x with
 |agg xs=>
  simp only [iA];refine sr _ xs [] λy hy l hl=>h l ?_;obtain ⟨af,hv⟩:=hl;obtain ⟨i,hi,rfl⟩:=q10 hy;exact ⟨af,by simp only [ao];exact bp hi hv⟩
 |ref l v i n=>simp only [iA];rw [qN h]
 |_=>rfl
theorem qO {m m':Mem} (k:lA->Prop):∀(xs acc:lA),(∀x,x∈xs->j0 (NL x) m m')->dH m' k acc xs=dH m k acc xs
 | [],acc,_=>rfl
 |x::r,acc,h=>by simp only [dH];rw [K_ (h x (q13 ..))];congr 1;funext y;exact qO k r _ λz hz=>h z (q12 _ hz)
theorem dI (a b:Mem) (l:Nat):ah (a++b) l=match ah a l with|some x=>some x|none=>ah b l:=by
 induction a with
 |nil=>rfl
 |cons p r ih=>
  obtain ⟨k,v⟩:=p;simp only [List.cons_append,aw];by_cases h:k=l
  . simp [h]
  simp [h,ih]
def DM {α:Type} (F:Mem->(α->Mem->Prop)->Prop) (R:nP) (m:Mem):Prop:=
 ∀k,F m k->∃x new,k x (new++m)/\∀m',j0 R m m'->j0 (λl=>ah new l≠none) m m'->∀k',k' x (new++m')->F m' k'
theorem DM.still {α:Type} {R:nP} {m:Mem} {G:Mem->(α->Prop)->Prop} (h:D1 (G m)) (hl:∀m',j0 R m m'->G m'=G m):DM (λm k=>G m λv=>k v m) R m:=λk hk=>
 have ⟨x,h1,h2⟩:=h _ hk
 ⟨x,[],h1,λm' hm _ k' hk'=>by show G m' _;rw [hl m' hm];exact h2 _ hk'⟩
theorem DM.no {α:Type} (R:nP) (m:Mem):DM (λ_ (_:α->Mem->Prop)=>False) R m:=λ_ h=>h.elim
theorem DM.and {α:Type} {F:Mem->(α->Mem->Prop)->Prop} {R:nP} {m:Mem} (p:Prop) (h:DM F R m):DM (λm k=>p/\F m k) R m:=λk hk=>
 have ⟨x,new,h1,h2⟩:=h k hk.2
 ⟨x,new,h1,λm' hm hm' k' hk'=>⟨hk.1,h2 m' hm hm' k' hk'⟩⟩
theorem DM.pre {α β:Type} {F:α->Mem->(β->Mem->Prop)->Prop} {G:Mem->(α->Prop)->Prop} {R:nP} {m:Mem} (hg:D1 (G m)) (hl:∀m',j0 R m m'->G m'=G m) (h:∀x,DM (F x) R m):
 DM (λm k=>G m λx=>F x m k) R m:=λk hk=>
 have ⟨x,h1,h2⟩:=hg _ hk;have ⟨y,new,g1,g2⟩:=h x k h1
 ⟨y,new,g1,λm' hm hm' k' hk'=>by show G m' _;rw [hl m' hm];exact h2 _ (g2 m' hm hm' k' hk')⟩
theorem DM.E7 {α β:Type} {F:α->Mem->(β->Mem->Prop)->Prop} {G:(α->Prop)->Prop} {R:nP} {m:Mem} (hg:D1 G) (h:∀x,DM (F x) R m):DM (λm k=>G λx=>F x m k) R m:=
 DM.pre (G:=λ_=>G) hg (λ_ _=>rfl) h
theorem DM.bind {α β:Type} {one:Mem->(α->Mem->Prop)->Prop} {rest:α->Mem->(β->Mem->Prop)->Prop} {R:nP} {m:Mem} (h:DM one R m) (h':∀y new,DM (rest y) R (new++m)):
 DM (λm k=>one m λy m1=>rest y m1 k) R m:=λk hk=>by
 obtain ⟨y,n1,h1,h2⟩:=h _ hk;obtain ⟨z,n2,g1,g2⟩:=h' y n1 k h1;refine ⟨z,n2++n1,by rw [List.append_assoc];exact g1,λm' hm hm' k' hk'=>h2 m' hm (λl hl=>hm' l ?_) _ (g2 (n1++m') (λl hl=> ?_) (λl hl=> ?_) k' (by rw [←List.append_assoc];exact hk'))⟩
 . show ah (n2++n1) l≠none;have hl:ah n1 l≠none:=hl;rw [dI];split<;>simp_all
 . rw [dI,dI,hm l hl]
 rw [dI,dI];have hl:ah n2 l≠none:=hl;cases hn:ah n1 l with
 |some x=>rfl
 |none=>exact hm' l (by show ah (n2++n1) l≠none;rw [dI];split<;>simp_all)
theorem DM.put {α:Type} {R:nP} {m:Mem} {x:Mem->α} (l:Nat) (b:Mem->bc) (hx:∀m',ah m' l=ah m l->x m'=x m/\b m'=b m):DM (λm k=>k (x m) ((l,b m)::m)) R m:=λk hk=>
 ⟨x m,[(l,b m)],hk,λm' _ hm' k' hk'=>by
   obtain ⟨h1,h2⟩:=hx m' (hm' l (by simp [aw]))
   rw [h1,h2];exact hk'⟩
theorem DM.ret {α:Type} {R:nP} {m:Mem} (x:α):DM (λm (k:α->Mem->Prop)=>k x m) R m:=λk hk=>⟨x,[],hk,λ_ _ _ _ hk'=>hk'⟩
theorem gh {m m':Mem} {l:Nat} (h:ah m' l=ah m l):aA m' l=aA m l:=by simp [aA,h]
variable {R:nP}
theorem DM.box (d:Nat) (y:AV) (m:Mem):DM (CC d y) R m:=
 DM.E7 (F:=λys m k=>k (AV.ptr d (aA m d) 0 0) ((d,bc.box (aA m d) ys)::m)) (D1.cells y) λys=>DM.put (x:=λm=>AV.ptr d (aA m d) 0 0) d (λm=>bc.box (aA m d) ys) λm' h=>by rw [gh h];exact ⟨rfl,rfl⟩
theorem DM.make (ti:TI) (d:Nat) (x y:AV) (m:Mem):DM (rR ti d x y) R m:=by
 unfold rR;split
 . exact DM.and _ (DM.and _ (DM.and _ (DM.put d _ λm' h=>by rw [gh h];exact ⟨rfl,rfl⟩)))
 exact DM.no _ _
theorem DM.buildSlice (ti:TI) (d n:Nat) (ps:List (Nat × AV)) (m:Mem):DM (iz ti d n ps) R m:=
 DM.and _ (DM.E7 (G:=λk=>nd ti.sh (List.replicate n ti.zero) k ps) (F:=λxs m k=>k (AV.ref d (aA m d) 0 n) ((d,bc.row (aA m d) ti.sh (bk xs) xs)::m)) (D1.TT _ _ _) λxs=>
  DM.put (x:=λm=>AV.ref d (aA m d) 0 n) d (λm=>bc.row (aA m d) ti.sh (bk xs) xs) λm' h=>by rw [gh h];exact ⟨rfl,rfl⟩)
theorem DM.load (ag:Bool) (n:Nat) (p:AV) (m:Mem):DM (ow ag n p) (NL p) m:=by
 intro k hk;unfold ow at hk;split at hk
 . rename_i l af i j;cases hb:ah m l with
   |none=>rw [hb] at hk;exact hk.elim
   |some b=>
    rw [hb] at hk;have hh:∀m',j0 (NL (.ptr l af i j)) m m'->ah m' l=some b:=λm' hm=>(hm l (NL.ptr _ _ _ _)).trans hb;cases b with
    |gone v=>exact hk.elim
    |box v xs=>
     obtain ⟨h1,h2,hk⟩:=hk;have hd:D1 λq:AV->Prop=>if ag then j+n<=xs.length/\q (.agg ((xs.drop j).take n)) else kc xs[j]? q:=by
      cases ag with
      |true=>exact D1.and _ (D1.pure _)
      |false=>exact D1.opt _
     obtain ⟨x,g1,g2⟩:=hd (λy=>k y m) hk
     exact ⟨x,[],g1,λm' hm _ k' hk'=>by
      show dS ag n l af i j (ah m' l) m' k';rw [hh m' hm]
      exact ⟨h1,h2,g2 (λy=>k' y m') hk'⟩⟩
    |kb v xs i u=>exact hk.elim
    |sub v sh xs u=>
     obtain ⟨h1,hk⟩:=hk;obtain ⟨x,hx,g1⟩:=D1.opt _ _ hk;obtain ⟨y,hy,g2⟩:=D1.part _ _ _ _ _ hx.2;refine ⟨y,[],hy,λm' hm _ k' hk'=> ?_⟩;show dS ag n l af i j (ah m' l) m' k';rw [hh m' hm];exact ⟨h1,g1 _ ⟨hx.1,g2 (λy=>k' y m') hk'⟩⟩
    |row v sh deep xs=>
     obtain ⟨h1,hk⟩:=hk;obtain ⟨x,hx,g1⟩:=D1.opt _ _ hk;obtain ⟨y,hy,g2⟩:=D1.part _ _ _ _ _ hx;by_cases hu:deep=true/\cf x=false
     . unfold dE at hy;rw [if_pos hu] at hy;refine ⟨y,[(l,.row v sh false xs)],hy.2,λm' hm _ k' hk'=> ?_⟩;show dS ag n l af i j (ah m' l) m' k';rw [hh m' hm];refine ⟨h1,g1 _ (g2 _ ?_)⟩;unfold dE;rw [if_pos hu];exact ⟨hy.1,hk'⟩
     unfold dE at hy;rw [if_neg hu] at hy;refine ⟨y,[],hy,λm' hm _ k' hk'=> ?_⟩;show dS ag n l af i j (ah m' l) m' k';rw [hh m' hm];refine ⟨h1,g1 _ (g2 _ ?_)⟩;unfold dE;rw [if_neg hu];exact hk'
 . rename_i sh xs i j;obtain ⟨x,hx,g1⟩:=D1.opt _ _ hk;obtain ⟨y,hy,g2⟩:=D1.part _ _ _ _ _ hx;exact ⟨y,[],hy,λm' _ _ k' hk'=>g1 _ (g2 (λy=>k' y m') hk')⟩
 exact hk.elim
theorem D1.put (j:Nat) (x y:AV):D1 (zA j x y):=by unfold zA;split<;>first|exact D1.and _ (D1.pure _)|exact D1.no
theorem DM.store (n:Nat) (p y:AV) (m:Mem):DM (λm k=>kH n p y m λm'=>k AV.undef m') (NL p) m:=by
 intro k hk;unfold kH at hk;split at hk
 . rename_i l af i j;cases hb:ah m l with
   |none=>rw [hb] at hk;exact hk.elim
   |some b=>
    rw [hb] at hk;have hh:∀m',j0 (NL (.ptr l af i j)) m m'->ah m' l=some b:=λm' hm=>(hm l (NL.ptr _ _ _ _)).trans hb;cases b with
    |gone v=>exact hk.elim
    |box v xs=>
     obtain ⟨h1,h2,hk⟩:=hk;obtain ⟨ys,g1,g2⟩:=D1.cells _ _ hk;refine ⟨.undef,[(l,.box v (jf xs j ys))],g1.2.2,λm' hm _ k' hk'=> ?_⟩;show dG l af i j (ah m' l) y m' n _;rw [hh m' hm];exact ⟨h1,h2,g2 _ ⟨g1.1,g1.2.1,hk'⟩⟩
    |kb v xs i0 u0=>exact hk.elim
    |sub v sh xs u0=>
     obtain ⟨h1,h2,hk⟩:=hk;obtain ⟨x,hx,g1⟩:=D1.opt _ _ hk;obtain ⟨h3,h4,hx⟩:=hx;obtain ⟨x',hx',g2⟩:=D1.put _ _ _ _ hx;refine ⟨.undef,[(l,.sub v sh (xs.set i x') u0)],hx',λm' hm _ k' hk'=> ?_⟩;show dG l af i j (ah m' l) y m' n _;rw [hh m' hm];exact ⟨h1,h2,g1 _ ⟨h3,h4,g2 _ hk'⟩⟩
    |row v sh deep xs=>
     obtain ⟨h1,h2,hk⟩:=hk;obtain ⟨x,hx,g1⟩:=D1.opt _ _ hk;obtain ⟨h3,h4,hx⟩:=hx;obtain ⟨x',hx',g2⟩:=D1.put _ _ _ _ hx;refine ⟨.undef,[(l,.row v sh deep (xs.set i x'))],hx',λm' hm _ k' hk'=> ?_⟩;show dG l af i j (ah m' l) y m' n _;rw [hh m' hm];exact ⟨h1,h2,g1 _ ⟨h3,h4,g2 _ hk'⟩⟩
 exact hk.elim
theorem DM.XR (ti:TI) (d:Nat) (x:AV) (ys:lA) (m:Mem):DM (oD ti d x ys) (NL x) m:=by
 unfold oD;split
 . rename_i l v i n;intro k hk;cases hb:ah m l with
   |none=>simp only [hb] at hk;exact hk.elim
   |some b=>
    simp only [hb] at hk;cases b with
    |row v' sh deep xs=>
     obtain ⟨h1,h2,h3,h4,h5,hk⟩:=hk;refine ⟨.ref l (v+1) 0 (n+ys.length),[(l,.row (v+1) ti.sh deep (xs.take n++ys))],hk,λm' hm _ k' hk'=> ?_⟩;show uO ti l v i n (ah m' l) ys m' k';rw [(hm l (NL.ref _ _ _ _)).trans hb];exact ⟨h1,h2,h3,h4,h5,hk'⟩
    |_=>exact hk.elim
 exact DM.and _ (DM.and _ (DM.put d _ λm' h=>by rw [gh h];exact ⟨rfl,rfl⟩))
theorem DM.mono {α:Type} {F:Mem->(α->Mem->Prop)->Prop} {R R':nP} {m:Mem} (h:DM F R m) (hr:∀l,R l->R' l):DM F R' m:=λk hk=>
 have ⟨x,new,h1,h2⟩:=h k hk
 ⟨x,new,h1,λm' hm hm' k' hk'=>h2 m' (λl hl=>hm l (hr l hl)) hm' k' hk'⟩
theorem DM.app (ti:TI) (d:Nat) (x y:AV) (m:Mem):DM (vQ ti d x y) (λl=>NL x l\/NL y l) m:=
 DM.and _ (DM.and _ (DM.and _ (DM.pre (G:=qH ti.sh y) (F:=λys m k=>bk ys=true/\oD ti d x ys m k) (D1.src _ _ _) (λm' hm=>OK _ λl hl=>hm l (.inr hl)) λys=>
  DM.and _ ((DM.XR ti d x ys m).mono λl hl=>.inl hl))))
theorem DM.Wm (l:Nat) (x:AV) (m:Mem):DM (nW l x) (λ_=>False) m:=by
 unfold nW;split
 . exact DM.put l _ λm' h=>by rw [gh h];exact ⟨rfl,rfl⟩
 exact DM.ret _
theorem DM.Wn:∀(xs:lA) (l:Nat) (acc:lA) (m:Mem),DM (λm k=>qj k l acc m xs) (λ_=>False) m
 | [],l,acc,m=>DM.ret acc.reverse
 |x::r,l,acc,m=>DM.bind (rest:=λy m k=>qj k (l+1) (y::acc) m r) (DM.Wm l x m) λy new=>DM.Wn r (l+1) (y::acc) (new++m)
theorem DM.Wo (l:Nat) (x:AV) (m:Mem):DM (nX l x) (λ_=>False) m:=by
 unfold nX;split
 . rename_i xs;exact DM.bind (one:=λm k=>qj k l [] m xs) (rest:=λys m k=>k (AV.agg ys) m) (DM.Wn xs l [] m) λys new=>DM.ret (AV.agg ys)
 . exact DM.no _ _
 exact DM.Wm l _ m
theorem DM.TU:∀(xs:lA) (l:Nat) (acc:lA) (m:Mem),DM (λm k=>ma k l acc m xs) (λ_=>False) m
 | [],l,acc,m=>DM.ret acc.reverse
 |x::r,l,acc,m=>DM.bind (rest:=λy m k=>ma k (l+16) (y::acc) m r) (DM.Wo l x m) λy new=>DM.TU r (l+16) (y::acc) (new++m)
theorem DM.YW (l:Nat) (x:AV) (m:Mem):DM (my l x) (λ_=>False) m:=by
 unfold my;split
 . rename_i xs;exact DM.bind (one:=λm k=>ma k l [] m xs) (rest:=λys m k=>k (AV.aX ys) m) (DM.TU xs l [] m) λys new=>DM.ret (AV.aX ys)
 exact DM.Wo l _ m
end Go.Vc
namespace Go.Vc
def ss (P:Program) (f:FuncId) (d:Nat) (ρ:lN) (io:List bc) (args:lA) (m:Mem) (k:AV->Mem->Prop) (_:Pack k):Prop:=
 ∃r io1,pD P f io args (λx io'=>x=r/\io'=io1)/\my (1000*(d+1)) r (fF ρ io1 m) k
@[congr] theorem Q3 {P:Program} {f:FuncId} {d:Nat} {ρ:lN} {io io':List bc} {args args':lA} {m:Mem} {k:AV->Mem->Prop} {q:Pack k} (h:io=io') (h':args=args'):ss P f d ρ io args m k q=ss P f d ρ io' args' m k q:=by rw [h,h']
theorem E8 {P:Program} {f:FuncId} {d:Nat} {ρ:lN} {io io1:List bc} {args:lA} {m:Mem} {k:AV->Mem->Prop} {r:AV} (h:pD P f io args (λx io'=>x=r/\io'=io1)) (hk:my (1000*(d+1)) r (fF ρ io1 m) k) {q:Pack k}:ss P f d ρ io args m k q:=
 ⟨r,io1,h,hk⟩
def E9 (P:Program) (f:FuncId) (xs:lA) (m:Mem) (k:AV->Mem->Prop):Prop:=
 ∃r new,k r (new++m)/\∀m',j0 (λl=>∃x,x∈xs/\NL x l) m m'->j0 (λl=>ah new l≠none) m m'->∀k',k' r (new++m')->h_ P f xs m' k'
def ij (P:Program) (f:FuncId) (d:Nat) (xs ts:lA) (m:Mem) (k:AV->Mem->Prop) (_:Pack k):Prop:=(∃own r,Fn P f ts own (· =r)/\(own=false->ax xs)/\UM own d m r k)∨
 (∃ρ,(∀l,l∈ρ->∃x,x∈xs/\NL x l)/\oQ m (λio=>n7 ρ (λargs=>ss P f d ρ io args m k ⟨⟩) [] xs) [] ρ)\/E9 P f xs m k
@[congr] theorem Si {P:Program} {f:FuncId} {d:Nat} {xs ts ts':lA} {m:Mem} {k:AV->Mem->Prop} {q:Pack k} (h:ts=ts'):ij P f d xs ts m k q=ij P f d xs ts' m k q:=by rw [h]
theorem an {P:Program} {f:FuncId} {d:Nat} {xs ts:lA} {m:Mem} {k:AV->Mem->Prop} {r:AV} (h:Fn P f ts true (· =r)) (hk:my (1000*(d+1)) r m k) {q:Pack k}:ij P f d xs ts m k q:=
 .inl ⟨true,r,h,λh=>(by cases h),hk⟩
theorem aH {P:Program} {f:FuncId} {d:Nat} {xs ts:lA} {m:Mem} {k:AV->Mem->Prop} {r:AV} (h:Fn P f ts false (· =r)) (hl:ax xs) (hk:k r m) {q:Pack k}:ij P f d xs ts m k q:=
 .inl ⟨false,r,h,λ_=>hl,hk⟩
theorem Ld {P:Program} {f:FuncId} {d:Nat} {xs ts:lA} {m:Mem} {k:AV->Mem->Prop} {q:Pack k} (ρ:lN) (hρ:(ρ.all λl=>(aq xs).any λp=>p.1==l)=true) (h:oQ m (λio=>n7 ρ (λargs=>ss P f d ρ io args m k ⟨⟩) [] xs) [] ρ):ij P f d xs ts m k q:=by refine .inr (.inl ⟨ρ,λl hl=> ?_,h⟩);rw [q4] at hρ;obtain ⟨p,hp,he⟩:=List.any_eq_true.1 (hρ l hl);obtain ⟨i,hi,hpi⟩:=bK hp;rw [beq_iff_eq] at he;subst he;exact ⟨xs[i],List.getElem_mem hi,p.2,hpi⟩
def nr (P:Program) (f:FuncId) (d:Nat) (xs:lA) (m:Mem) (k:AV->Mem->Prop):Prop:=dH m (λts=>ij P f d xs ts m k ⟨⟩) [] xs
@[congr] theorem Sj {P:Program} {f:FuncId} {d:Nat} {xs xs':lA} {m:Mem} {k:AV->Mem->Prop} (h:xs=xs'):nr P f d xs m k=nr P f d xs' m k:=by rw [h]
theorem BA (P:Program) (f:FuncId) (d:Nat) (x:AV) (xs:lA) (m:Mem) (k:AV->Mem->Prop):nr P f d (x::xs) m k=dH m (λts=>ij P f d (x::xs) ts m k ⟨⟩) [] (x::xs):=rfl
theorem D1.OL (m:Mem) (x:AV):D1 (fA m x):=by
 unfold fA
 split<;>first
  |exact D1.pure _
  |exact D1.no
  |(unfold nV;split<;>first|exact D1.and _ (D1.and _ (D1.pure _))|exact D1.no)
theorem D1.Wp (P:Program) (si ti:TI) (m:Mem) (x:AV):D1 (fP P si ti x m):=by
 unfold fP;split
 . exact D1.bind (D1.ti _) λei=>D1.xx _ (D1.bind (D1.OL m x) λy=>D1.bytes y)
 . exact D1.Y' _
 exact D1.conv _ _
theorem HI {P:Program} {si ti:TI} {m m':Mem} {x:AV} (h:j0 (NL x) m m'):fP P si ti x m'=fP P si ti x m:=by funext k;unfold fP;simp only [qN h]
theorem D1.JH (m:Mem):∀(xs acc:lA),D1 λk=>cV m k acc xs
 | [],acc=>D1.pure acc.reverse
 |x::r,acc=>D1.bind (H:=λy k=>cV m k (y::acc) r) (D1.OL m x) λy=>D1.JH m r (y::acc)
theorem D1.tree (m:Mem) (x:AV):D1 (iA m x):=by
 unfold iA;split
 . rename_i xs;exact D1.bind (G:=λk=>cV m k [] xs) (H:=λys k=>k (AV.agg ys)) (D1.JH m xs []) λys=>D1.pure (AV.agg ys)
 . exact D1.pure _
 . exact D1.pure _
 exact D1.OL m _
theorem D1.trees (m:Mem):∀(xs acc:lA),D1 λk=>dH m k acc xs
 | [],acc=>D1.pure acc.reverse
 |x::r,acc=>D1.bind (H:=λy k=>dH m k (y::acc) r) (D1.tree m x) λy=>D1.trees m r (y::acc)
theorem DM.res (own:Bool) (d:Nat) (r:AV) (m:Mem):DM (λm k=>UM own d m r k) (λ_=>False) m:=by
 cases own with
 |true=>exact DM.YW _ r m
 |false=>exact DM.ret r
theorem D1.XS {α:Type} (b:Option bc) {G:bc->(α->Prop)->Prop} (h:∀b,D1 (G b)):D1 λk=>sj b λb=>G b k:=by unfold sj;split<;>first|exact h _|exact D1.and _ (h _)|exact D1.no
theorem D1.XT (m:Mem):∀(ρ:lN) (acc:List bc),D1 λk=>oQ m k acc ρ
 | [],acc=>D1.pure acc.reverse
 |l::r,acc=>D1.and _ (D1.XS (ah m l) (G:=λb k=>oQ m k (b::acc) r) λb=>D1.XT m r (b::acc))
theorem E_ {m m':Mem} (k:List bc->Prop):∀(ρ:lN) (acc:List bc),(∀l,l∈ρ->ah m' l=ah m l)->oQ m' k acc ρ=oQ m k acc ρ
 | [],acc,_=>rfl
 |l::r,acc,h=>by rw [pE,pE,h l (q13 ..)];have:(λb=>oQ m' k (b::acc) r)=λb=>oQ m k (b::acc) r:=funext λb=>E_ k r (b::acc) λl' hl=>h l' (q12 _ hl);rw [this]
theorem D1.pos (l:Nat):∀(ρ:lN) (i:Nat),D1 λk=>vV l k i ρ
 | [],_=>D1.no
 |l0::r,i=>by
  have h1:=D1.pos l r (i+1);intro k hk;have hk:vV l k i (l0::r):=hk;rw [ku] at hk;split at hk
  . rename_i e;exact ⟨i,hk,λk' h'=>by show vV l k' i (l0::r);rw [ku,if_pos e];exact h'⟩
  rename_i e;obtain ⟨x,h2,h3⟩:=h1 k hk;exact ⟨x,h2,λk' h'=>by show vV l k' i (l0::r);rw [ku,if_neg e];exact h3 k' h'⟩
theorem D1.DL (ρ:lN) (x:AV):D1 (zE ρ x):=by
 unfold zE
 split<;>first
  |exact D1.pure _
  |exact D1.no
  |exact D1.bind (H:=λj k=>k _) (D1.pos _ ρ 0) λj=>D1.pure _
theorem D1.Wq (ρ:lN):∀(xs acc:lA),D1 λk=>qt ρ k acc xs
 | [],acc=>D1.pure acc.reverse
 |x::r,acc=>D1.bind (H:=λy k=>qt ρ k (y::acc) r) (D1.DL ρ x) λy=>D1.Wq ρ r (y::acc)
theorem D1.XU (ρ:lN) (x:AV):D1 (mD ρ x):=by
 unfold mD;split
 . rename_i xs;exact D1.bind (G:=λk=>qt ρ k [] xs) (H:=λys k=>k (AV.agg ys)) (D1.Wq ρ xs []) λys=>D1.pure (AV.agg ys)
 exact D1.DL ρ _
theorem D1.U5 (ρ:lN):∀(xs acc:lA),D1 λk=>n7 ρ k acc xs
 | [],acc=>D1.pure acc.reverse
 |x::r,acc=>D1.bind (H:=λy k=>n7 ρ k (y::acc) r) (D1.XU ρ x) λy=>D1.U5 ρ r (y::acc)
theorem mI:∀(ρ:lN) (io:List bc) (m:Mem),fF ρ io m=fF ρ io []++m
 | [],io,m=>by cases io<;>rfl
 |_::_,[],m=>rfl
 |l::ρ,b::io,m=>by rw [kM,kM,mI ρ io m,List.cons_append]
theorem DM.Wr (P:Program) (f:FuncId) (d:Nat) (xs ts:lA) (m:Mem):DM (λm k=>ij P f d xs ts m k ⟨⟩) (λl=>∃x,x∈xs/\NL x l) m:=by
 rintro k (⟨own,r,h1,h2,h3⟩|⟨ρ,hρ,h⟩|⟨r,new,h1,h2⟩)
 rotate_left 2
 . exact ⟨r,new,h1,λm' a b k' hk'=>.inr (.inr ⟨r,new,hk',λm2 c d k2 hk2=>h2 m2 (λl hl=>(c l hl).trans (a l hl)) (λl hl=>(d l hl).trans (b l hl)) k2 hk2⟩)⟩
 . obtain ⟨x,new,g1,g2⟩:=DM.res own d r m k h3;exact ⟨x,new,g1,λm' _ hm' k' hk'=>.inl ⟨own,r,h1,h2,g2 m' (λ_ hl=>hl.elim) hm' k' hk'⟩⟩
 obtain ⟨io,h1,h2⟩:=D1.XT m ρ [] _ h;obtain ⟨args,h3,h4⟩:=D1.U5 ρ xs [] _ h1;obtain ⟨r,io1,hF,hm⟩:=h3;obtain ⟨x,new,g1,g2⟩:=DM.YW _ r (fF ρ io1 m) k hm;refine ⟨x,new++fF ρ io1 [],by rw [List.append_assoc,←mI];exact g1,λm' hm1 hm' k' hk'=>.inr (.inl ⟨ρ,hρ,?_⟩)⟩;rw [E_ _ ρ [] λl hl=>hm1 l (hρ l hl)];refine h2 _ (h4 _ ⟨r,io1,hF,g2 (fF ρ io1 m') (λ_ hl=>hl.elim) (λl hl=> ?_) k' (by rw [mI ρ io1 m',←List.append_assoc];exact hk')⟩);have hl:ah new l≠none:=hl;rw [mI ρ io1 m',mI ρ io1 m,dI,dI];have:=hm' l (by show ah (new++fF ρ io1 []) l≠none;rw [dI];split<;>simp_all);rw [this]
theorem DM.TV (P:Program) (f:FuncId) (d:Nat) (xs:lA) (m:Mem):DM (nr P f d xs) (λl=>∃x,x∈xs/\NL x l) m:=
 DM.pre (G:=λm k=>dH m k [] xs) (F:=λts m k=>ij P f d xs ts m k ⟨⟩) (D1.trees m xs []) (λm' hm=>funext λk=>qO k xs [] λx hx l hl=>hm l ⟨x,hx,hl⟩) λts=>DM.Wr P f d xs ts m
theorem HJ {P:Program} {t:TypeId} {op:BinOp} {a b:AV} {k:AV->Prop} {r r':Prop} (hr:r->r') (h:gK P t op a b k r):gK P t op a b k r':=by
 unfold gK at h ⊢;split at h
 . exact h
 . exact h
 exact hr h
theorem D1.Ws (f:FK) (x y:AV):D1 (l_ f x y):=by unfold l_;split<;>first|exact D1.and _ (D1.pure _)|exact D1.pure _|exact D1.no
theorem D1.Wt:∀(fs:List FK) (xs ys:lA) (acc:Bool),D1 λk=>uG k acc fs xs ys
 | [],xs,ys,acc=>by cases xs<;>cases ys<;>first|exact D1.pure _|exact D1.no
 |f::fs,xs,ys,acc=>by
  cases xs with
  |nil=>cases ys<;>exact D1.no
  |cons x xs=>
   cases ys with
   |nil=>exact D1.no
   |cons y ys=>exact D1.bind (D1.Ws f x y) λb=>D1.Wt fs xs ys _
theorem D1.Zb (op:BinOp) (c:Bool):D1 (Rk op c):=by unfold Rk;split<;>first|exact D1.pure _|exact D1.no
theorem D1.fk (o:Option (List FK)):D1 (Wh o):=by
 cases o with
 |none=>exact D1.no
 |some x=>exact D1.pure x
theorem D1.XV (P:Program) (t:TypeId) (op:BinOp) (kd:TK) (a b:AV):D1 λk=>gK P t op a b k (kF op kd a b k):=by
 unfold gK;split
 . exact D1.bind (D1.fk _) λks=>D1.bind (D1.Wt ks _ _ true) λc=>D1.Zb op c
 . cases rM P t op with
   |none=>exact D1.no
   |some c=>exact D1.pure _
 exact D1.bin _ _ _ _
def pK (P:Program) (c:AV) (d:Nat) (xs:lA) (m:Mem) (k:AV->Mem->Prop):Prop:=match c with
 | .cn f ys=>nr P f d (xs++ys) m k
 |_=>False
@[congr] theorem Q4 {P:Program} {c c':AV} {d:Nat} {xs xs':lA} {m:Mem} {k:AV->Mem->Prop} (h:c=c') (h':xs=xs'):pK P c d xs m k=pK P c' d xs' m k:=by rw [h,h']
theorem DM.U6 (P:Program) (c:AV) (d:Nat) (xs:lA) (m:Mem):DM (pK P c d xs) (λl=>(∃x,x∈xs/\NL x l)\/NL c l) m:=by
 cases c with
 |cn f ys=>
  refine (DM.TV P f d (xs++ys) m).mono λl hl=> ?_;obtain ⟨x,hx,af,hv⟩:=hl;rcases List.mem_append.1 hx with hx|hx
  . exact .inl ⟨x,hx,af,hv⟩
  obtain ⟨i,hi,rfl⟩:=q10 hx;exact .inr ⟨af,by simp only [ao];exact bp hi hv⟩
 |_=>exact DM.no _ _
def cA (P:Program) (d:Nat) (op:Op) (ts:Env) (m:Mem) (k:AV->Mem->Prop):Prop:=
 match op with
 | .call c=>match c.callee,c.args.toList with
   | .value (.func f),xs=>nr P f d (xs.map (ev ts)) m k
   | .value (.tmp t),xs=>pK P (look ts t) d (xs.map (ev ts)) m k
   | .builtin .append,[x,y]=>kJ P c.argTypes.toList d (ev ts x) (ev ts y) m k
   |_,_=>iK P d (.call c) ts m k
 | .binOp op t x y _=>eo (aK P t) λti=>gK P t op (ev ts x) (ev ts y) (λv=>k v m) (kF op ti.kind (ev ts x) (ev ts y) λv=>k v m)
 | .load t x=>eo (aK P t) λti=>ow ti.agg ti.size (ev ts x) m k
 | .store t p y=>eo (aK P t) λti=>kH ti.size (ev ts p) (ev ts y) m λm'=>k .undef m'
 | .indexAddr t x i=>eo (aK P t) λtt=>xn tt.kind (eo (aK P tt.elem) λti=>oK ti.sh m (ev ts x) (ev ts i) λv=>k v m)
 |op=>iK P d op ts m k
theorem HK {ag:Bool} {n j:Nat} {x:AV} {k k':AV->Prop} (h:∀y,k y->k' y) (hk:de ag n j x k):de ag n j x k':=by obtain ⟨y,h1,h2⟩:=D1.part _ _ _ _ _ hk;exact h2 _ (h y h1)
theorem Le {ag:Bool} {n:Nat} {p:AV} {m:Mem} {k:AV->Mem->Prop} (h:ow ag n p m k):oz ag n p m k:=by
 cases p with
 |ptr l af i j=>
  have h0:dS ag n l af i j (ah m l) m k:=h;show if l<bC then dS ag n l af i j (ah m l) m k else kG ag n l af i j (ah m l) m k
  split
  . exact h0
  rename_i hl;generalize ah m l=b at h0;unfold kG;split
  . obtain ⟨h1,h2⟩:=h0;refine ⟨h1,?_⟩;rename_i xs;cases hx:xs[i]? with
    |none=>rw [hx] at h2;exact h2.elim
    |some x=>
     rw [hx] at h2;rw [td] at h2 ⊢;refine HK (λy hy=> ?_) h2;unfold dE at hy;unfold qf;split
     . rename_i hc;rw [if_pos hc] at hy;exact absurd hy.1 hl
     rename_i hc;rw [if_neg hc] at hy;exact hy
  exact h0
 |bo=>exact h
 |_=>exact h.elim
theorem HL {n:Nat} {p y:AV} {m:Mem} {k:Mem->Prop} (h:kH n p y m k):cE n p y m k:=by
 unfold cE;split
 . rename_i l af i j l2 v2 i2 n2;have h:dG l af i j (ah m l) (.ref l2 v2 i2 n2) m n k:=h;unfold m_;split
   . rename_i v xs hb;rw [hb] at h;have:=h.2.1;cases this
   exact h
 exact h
theorem x6 {P:Program} {f:FuncId} {d:Nat} {xs:lA} {m:Mem} {k:AV->Mem->Prop} (h:nr P f d xs m k):nY P f d xs m k:=by
 have key:∀(xs acc:lA) (G G':lA->Prop),(∀ts,G ts->G' ts)->dH m G acc xs->dH m G' acc xs:=by intro xs acc G G' hg h;obtain ⟨x,h1,h2⟩:=D1.trees m xs acc G h;exact h2 G' (hg x h1)
 exact key _ _ _ _ (λts hx=>by
  rcases hx with ⟨own,r,h1,h2,h3⟩|⟨ρ,_,h⟩|⟨r,new,h1,h2⟩
  rotate_left 2
  . exact .inl (h2 m (λ_ _=>rfl) (λ_ _=>rfl) k h1)
  . exact .inr ⟨own,_,h1,h2,λ_ e=>e▸h3⟩
  refine aU ρ ?_;obtain ⟨io,h1,h2⟩:=D1.XT m ρ [] _ h;obtain ⟨args,h3,h4⟩:=D1.U5 ρ _ [] _ h1;obtain ⟨r,io1,hF,hm⟩:=h3
  exact h2 _ (h4 _ ⟨_,hF,λr io' ⟨e,e'⟩=>by subst e;subst e';exact hm⟩)) h
theorem E' {P:Program} {c:AV} {d:Nat} {xs:lA} {m:Mem} {k:AV->Mem->Prop} (h:pK P c d xs m k):ni P c d xs m k:=by
 cases c with
 |cn f ys=>exact x6 h
 |_=>exact h.elim
theorem x7 {P:Program} {d:Nat} {op:Op} {ts:Env} {m:Mem} {k:AV->Mem->Prop} (h:cA P d op ts m k):iK P d op ts m k:=by
 unfold cA at h;split at h
 . rename_i c;split at h
   . rename_i f hc;have:=x6 h;unfold iK;simp only [hc];exact this
   . rename_i t hc;have:=E' h;unfold iK;simp only [hc];exact this
   . rename_i x y hc hx;have:=h;unfold iK;simp only [hc,hx];exact this
   exact h
 . obtain ⟨ti,ht,h⟩:=bD h;show eo _ _;rw [ht];exact HJ (λh=>NO h) h
 . obtain ⟨ti,ht,h⟩:=bD h;show eo _ _;rw [ht];exact Le h
 . obtain ⟨ti,ht,h⟩:=bD h;show eo _ _;rw [ht];exact Ha (HL h)
 . obtain ⟨tt,htt,h⟩:=bD h;obtain ⟨hks,h⟩:=nk h;obtain ⟨ti,ht,h⟩:=bD h;show eo _ _;rw [htt,wx,hks];show eo _ _;rw [ht];exact NN h
 exact h
def G0 (op:Op):lO:=match op with
 | .move _=>[]
 | .assign _=>[]
 | .pick _ _ _=>[]
 | .box _ _=>[]
 | .build _ _=>[]
 | .binOp _ _ _ _ _=>[]
 | .extract _ _=>[]
 | .field _ _ _=>[]
 | .store _ p _=>[p]
 |op=>op.operands.toList
theorem Sk {op:Op} {o:Operand} (h:o∈G0 op):o∈op.operands.toList:=by
 unfold G0 at h
 split at h<;>first
  |exact h
  |exact absurd h List.not_mem_nil
  |(rw [List.mem_singleton] at h;subst h;simp [Op.operands])
def Reads (op:Op) (ts:Env) (l:Nat):Prop:=∃o,o∈G0 op/\NL (ev ts o) l
theorem DM.sl {F:Mem->(AV->Mem->Prop)->Prop} {R:nP} {m:Mem} (kd:TK) (h:DM F R m):DM (λm k=>xn kd (F m k)) R m:=by cases kd<;>first|exact h|exact DM.no _ _
theorem DM.st {F:Mem->(AV->Mem->Prop)->Prop} {R:nP} {m:Mem} (kd:TK) (h:DM F R m):DM (λm k=>V8 kd (F m k)) R m:=by cases kd<;>first|exact h|exact DM.no _ _
theorem DM.ti {F:TI->Mem->(AV->Mem->Prop)->Prop} {R:nP} {m:Mem} (o:Option TI) (h:∀ti,DM (F ti) R m):DM (λm k=>eo o λti=>F ti m k) R m:=DM.E7 (D1.ti o) h
theorem DM.Wu {R:nP} (d:Nat) (x:AV) (m:Mem):DM (tq d x) R m:=by
 unfold tq;split
 . exact DM.and _ (DM.put d _ λm' h=>by rw [gh h];exact ⟨rfl,rfl⟩)
 exact DM.no _ _
theorem DM.Wv {R:nP} (P:Program) (si ti:TI) (d:Nat) (x:AV) (m:Mem) (h:∀m',j0 R m m'->fP P si ti x m'=fP P si ti x m):DM (kK P si ti d x) R m:=by
 unfold kK;split
 . refine DM.ti _ λei=> ?_;unfold xx;split
   . exact DM.Wu d x m
   exact DM.no _ _
 exact DM.still (G:=λm k=>fP P si ti x m k) (D1.Wp P si ti m _) λm' hm=>h m' hm
theorem DM.or {α:Type} {F G:Mem->(α->Mem->Prop)->Prop} {R:nP} {m:Mem} (h:DM F R m) (h':DM G R m):DM (λm k=>F m k\/G m k) R m:=λk hk=>by
 rcases hk with hk|hk
 . obtain ⟨x,new,h1,h2⟩:=h k hk;exact ⟨x,new,h1,λm' a b k' hk'=>.inl (h2 m' a b k' hk')⟩
 obtain ⟨x,new,h1,h2⟩:=h' k hk;exact ⟨x,new,h1,λm' a b k' hk'=>.inr (h2 m' a b k' hk')⟩
theorem DM.Ww (ti:TI) (d:Nat) (x:AV) (ys:lA) (m:Mem):DM (lC ti d x ys) (NL x) m:=by
 unfold lC;split
 . rename_i l v i n;intro k hk;cases hb:ah m l with
   |none=>simp only [hb] at hk;exact hk.elim
   |some b=>
    simp only [hb] at hk;cases b with
    |row v' sh deep xs=>
     obtain ⟨h1,h2,h3,h4,h5,h6,hk⟩:=hk;refine ⟨.ref l (v+1) 0 (n+ys.length),[(l,.row (v+1) ti.sh false (xs.take n++ys))],hk,λm' hm _ k' hk'=> ?_⟩;show oE ti l v i n (ah m' l) ys m' k';rw [(hm l (NL.ref _ _ _ _)).trans hb];exact ⟨h1,h2,h3,h4,h5,h6,hk'⟩
    |_=>exact hk.elim
 exact DM.and _ (DM.and _ (DM.put d _ λm' h=>by rw [gh h];exact ⟨rfl,rfl⟩))
theorem DM.XW (ti:TI) (d:Nat) (x y:AV) (m:Mem):DM (lF ti d x y) (λl=>NL x l\/NL y l) m:=by
 cases y with
 |ref l v i n=>
  intro k hk;have hk1:jj ti d x l v i n (ah m l) m k:=hk;have go:∀m',j0 (λl'=>NL x l'\/NL (.ref l v i n) l') m m'->ah m' l=ah m l:=λm' hm=>hm l (.inr (NL.ref _ _ _ _));unfold jj at hk1;split at hk1
  . rename_i v' sh' zs hb;obtain ⟨z,new,h1,h2⟩:=DM.or (DM.app ti d x (.ref l v i n) m) (DM.and (v'=v) (DM.and (sh'=ti.sh) (DM.and (i+n<=zs.length) (DM.and (ti.bytes<=65536/\0<ti.size/\fits ti.sh ti.zero) ((DM.Ww ti d x ((zs.drop i).take n) m).mono λl hl=>.inl hl))))) k hk1;refine ⟨z,new,h1,λm' a b k' hk'=> ?_⟩;show jj ti d x l v i n (ah m' l) m' k';rw [go m' a,hb];exact h2 m' a b k' hk'
  rename_i hb;obtain ⟨z,new,h1,h2⟩:=DM.app ti d x (.ref l v i n) m k hk1;refine ⟨z,new,h1,λm' a b k' hk'=> ?_⟩;show jj ti d x l v i n (ah m' l) m' k';rw [go m' a];have:=h2 m' a b k' hk';unfold jj;split
  . rename_i hb2;exact absurd hb2 (hb _ _ _)
  exact this
 |arr sh xs=>
  cases hb:bk xs with
  |true=>
   have e:lF ti d x (.arr sh xs)=vQ ti d x (.arr sh xs):=(by funext m k;show rU ti d x sh xs (bk xs) m k=_;rw [hb];rfl);rw [e];exact DM.app ti d x _ m
  |false=>
   have e:lF ti d x (.arr sh xs)=λm k=>sh=ti.sh/\(ti.bytes<=65536/\0<ti.size/\fits ti.sh ti.zero)/\lC ti d x xs m k:=(by funext m k;show rU ti d x sh xs (bk xs) m k=_;rw [hb];rfl);rw [e];exact DM.and _ (DM.and _ ((DM.Ww ti d x xs m).mono λl hl=>.inl hl))
 |_=>exact DM.app ti d x _ m
theorem DM.Wx (P:Program) (tys:List TypeId) (d:Nat) (x y:AV) (m:Mem):DM (kJ P tys d x y) (λl=>NL x l\/NL y l) m:=by
 unfold kJ;split
 . refine DM.E7 (F:=λtt m k=>xn tt.kind (eo (aK P _) λtt'=>xn tt'.kind (eo (aK P tt.elem) λti=>lF ti d x y m k))) (D1.ti _) λtt=> ?_;have hsl:∀(kd:TK) {F:Mem->(AV->Mem->Prop)->Prop} {R:nP},DM F R m->DM (λm k=>xn kd (F m k)) R m:=by
    intro kd F R h;cases kd<;>first|exact h|exact DM.no _ _
   refine hsl _ (DM.E7 (F:=λtt' m k=>xn tt'.kind (eo (aK P tt.elem) λti=>lF ti d x y m k)) (D1.ti _) λtt'=> ?_);exact hsl _ (DM.E7 (F:=λti m k=>lF ti d x y m k) (D1.ti _) λti=>DM.XW ti d x y m)
 exact DM.no _ _
theorem DM.Wy {R:nP} (x:AV) (m:Mem) (hR:∀l,NL x l->R l):DM (mz x) R m:=by
 unfold mz;split
 . rename_i l v i n;intro k hk;cases hb:ah m l with
   |none=>rw [hb] at hk;exact hk.elim
   |some b=>
    rw [hb] at hk;cases b with
    |row v' sh d ys=>
     obtain ⟨h1,h2,h3,h4⟩:=hk;refine ⟨.arr sh ((ys.drop i).take n),[(l,.gone v)],h4,λm' hm _ k' hk'=> ?_⟩;show rY l v i n (ah m' l) m' k';rw [hm l (hR l (NL.ref _ _ _ _)),hb];exact ⟨h1,h2,h3,hk'⟩
    |_=>exact hk.elim
 exact DM.ret _
theorem DM.map {α β:Type} {F:Mem->(α->Mem->Prop)->Prop} {R:nP} {m:Mem} (f:α->β) (h:DM F R m):DM (λm k=>F m λx m'=>k (f x) m') R m:=λk hk=>
 have ⟨x,new,h1,h2⟩:=h _ hk
 ⟨f x,new,h1,λm' hm hm' k' hk'=>h2 m' hm hm' _ hk'⟩
theorem DM.TW {R:nP}:∀(xs acc:lA) (m:Mem),(∀x,x∈xs->∀l,NL x l->R l)->DM (λm k=>nf k acc m xs) R m
 | [],acc,m,_=>DM.ret acc.reverse
 |x::r,acc,m,hR=>DM.bind (one:=mz x) (rest:=λy m k=>nf k (y::acc) m r) (DM.Wy x m (hR x (q13 ..))) λy new=>DM.TW r (y::acc) (new++m) λx hx=>hR x (q12 _ hx)
theorem DM.XX {R:nP} (x:AV) (m:Mem) (hR:∀l,NL x l->R l):DM (lG x) R m:=by
 cases x with
 |agg xs=>exact DM.map AV.agg (DM.TW xs [] m λx hx l ⟨af,hl⟩=>hR l ⟨af,by
   obtain ⟨i,hi,rfl⟩:=q10 hx
   simp only [ao];exact bp hi hl⟩)
 |_=>exact DM.Wy _ m hR
theorem DM.Wz {R:nP}:∀(ps acc:List (Nat × AV)) (m:Mem),(∀p,p∈ps->∀l,NL p.2 l->R l)->DM (λm k=>qk k acc m ps) R m
 | [],acc,m,_=>DM.ret acc.reverse
 |(i,x)::r,acc,m,hR=>DM.bind (one:=lG x) (rest:=λy m k=>qk k ((i,y)::acc) m r) (DM.XX x m (hR (i,x) (q13 ..))) λy new=>DM.Wz r ((i,y)::acc) (new++m) λp hp=>hR p (q12 _ hp)
theorem DM.Fa {R:nP} (ti:TI) (d n:Nat) (ps:List (Nat × AV)) (m:Mem) (hR:∀p,p∈ps->∀l,NL p.2 l->R l):DM (gI ti d n ps) R m:=
 DM.bind (one:=λm k=>qk k [] m ps) (rest:=λps m k=>iz ti d n ps m k) (DM.Wz ps [] m hR) λps new=>DM.buildSlice ti d n ps (new++m)
theorem OM (P:Program) (d:Nat) (op:Op) (ts:Env) (m:Mem):DM (cA P d op ts) (Reads op ts) m:=by
 have rd:∀(o:Operand),o∈G0 op->∀l,NL (ev ts o) l->Reads op ts l:=λo h l hl=>⟨o,h,hl⟩;have lk:∀(o:Operand),o∈G0 op->∀m',j0 (Reads op ts) m m'->j0 (NL (ev ts o)) m m':=λo h m' hm l hl=>hm l (rd o h l hl);have nomem:∀{G:(AV->Prop)->Prop},D1 G->DM (λm k=>G λv=>k v m) (Reads op ts) m:=λ{G} h=>DM.still (G:=λ_=>G) h λ_ _=>rfl;have other:(∀t x i,op≠ .indexAddr t x i)->(∀c f,op= .call c->c.callee≠ .value (.func f))->(∀c t,op= .call c->c.callee≠ .value (.tmp t))->(∀o t x y t2,op≠ .binOp o t x y t2)->(∀t x,op≠ .load t x)->(∀t p y,op≠ .store t p y)->(∀c x y,op= .call c->c.callee= .builtin .append->c.args.toList=[x,y]->False)->DM (iK P d op ts) (Reads op ts) m:=by
  intro hni hno hnt hnb hnl hns hna;cases op with
  |move x=>exact DM.ret _
  |makeFunc fn first caps=>cases fn<;>first|exact DM.and _ (DM.ret _)|exact DM.no _ _
  |assign x=>exact DM.ret _
  |pick c a b=>exact nomem (D1.pick _ _ _)
  |alloc t=>exact DM.ti _ λti=>DM.box d ti.zero m
  |box t x=>exact DM.box d _ m
  |build t parts=>exact DM.ti _ λti=>DM.st _ (nomem (D1.build ti _))
  |buildSlice t n parts=>
   refine DM.ti _ λtt=>DM.sl _ (DM.ti _ λti=>DM.Fa ti d n _ m λp hp l hl=> ?_);obtain ⟨q,hq,rfl⟩:=q14.1 hp;exact ⟨q.2,by show q.2∈(Op.buildSlice t n parts).operands.toList;simp only [Op.operands];exact q14.2 ⟨q,hq,rfl⟩,hl⟩
  |load t x=>exact absurd rfl (hnl _ _)
  |store t p y=>exact absurd rfl (hns _ _ _)
  |nilCheck x=>exact DM.still (D1.nil m _) λm' hm=>OG (lk x (by simp [G0,Op.operands]) m' hm)
  |binOp op t x y t2=>exact absurd rfl (hnb _ _ _ _ _)
  |unOp op t x=>cases op<;>first|exact nomem (D1.not _)|exact nomem (D1.neg _)|exact DM.no _ _
  |convert s t x=>exact DM.ti _ λsi=>DM.ti _ λti=>DM.Wv P si ti d _ m λm' hm=>HI (lk x (by simp [G0,Op.operands]) m' hm)
  |makeSlice t l c=>exact DM.ti _ λtt=>DM.sl _ (DM.ti _ λti=>DM.make ti d _ _ m)
  |fieldAddr t x f=>exact DM.ti _ λti=>DM.E7 (F:=λfd m k=>0<fd.2.1/\ib fd.1 m (ev ts x) λv=>k v m) (D1.XP _) λfd=>DM.and _ (DM.still (D1.field _ m _) λm' hm=>HG _ (lk x (by simp [G0,Op.operands]) m' hm))
  |field t x f=>exact DM.ti _ λti=>DM.E7 (F:=λfd m k=>nh fd.2.2 fd.2.1 fd.1 (ev ts x) λv=>k v m) (D1.XP _) λfd=>nomem (D1.Wl _ _ _ _)
  |indexAddr t x i=>exact absurd rfl (hni _ _ _)
  |index t x i=>exact DM.ti _ λtt=>DM.and _ (nomem (D1.index _ _))
  |extract x i=>exact nomem (D1.aX _ _)
  |slice t x lo hi mx=>
   cases mx with
   |none=>exact DM.ti _ λtt=>DM.still (G:=λm k=>ng P tt (ev ts x) (lo.map (ev ts)) (hi.map (ev ts)) m k) (D1.Za _ _ _ _ _ m) λm' hm=>OJ _ _ (lk x (by simp [G0,Op.operands]) m' hm)
   |some mx=>
    cases lo with
    |none=>exact DM.and _ (DM.ti _ λtt=>DM.sl _ (DM.ti _ λ_=>DM.still (G:=λm k=>jz m (ev ts x) k) (D1.U4 m _) λm' hm=>E6 (lk x (by simp [G0,Op.operands]) m' hm)))
    |some lo=>exact DM.no _ _
  |call c=>
   obtain ⟨callee,args,tys⟩:=c;have hin:∀o,o∈args.toList->o∈G0 (Op.call ⟨callee,args,tys⟩):=λo ho=>by show o∈(Op.call ⟨callee,args,tys⟩).operands.toList;simp only [Op.operands,Call.operands,Array.toList_append,List.mem_append];exact .inr ho
   show DM (λm k=>match callee,args.toList with
    | .builtin .len,[x]=>match tys.toList with|t::_=>eo (aK P t) λti=>mY ti.kind m (ev ts x) λv=>k v m| []=>False
    | .builtin .max,[x,y]=>zy (ev ts x) (ev ts y) λv=>k v m
    | .builtin .min,[x,y]=>mW (ev ts x) (ev ts y) λv=>k v m
    | .builtin .min,[x,y,z]=>mW (ev ts x) (ev ts y) λu=>mW u (ev ts z) λv=>k v m
    | .builtin .append,[x,y]=>kJ P tys.toList d (ev ts x) (ev ts y) m k
    | .value (.func f),xs=>nY P f d (xs.map (ev ts)) m k
    | .value (.tmp t),xs=>ni P (look ts t) d (xs.map (ev ts)) m k
    |_,_=>False) (Reads (.call ⟨callee,args,tys⟩) ts) m
   generalize hl0:args.toList=l at hin;split
   . rename_i x;split
     . exact DM.ti _ λti=>DM.still (G:=λm k=>mY ti.kind m (ev ts x) k) (D1.len _ m _) λm' hm=>OH _ (lk x (hin x (by simp)) m' hm)
     exact DM.no _ _
   . exact nomem (D1.max _ _)
   . exact nomem (D1.min _ _)
   . exact nomem (D1.bind (D1.min _ _) λu=>D1.min u _)
   . rename_i x y;exact (hna _ x y rfl rfl hl0).elim
   . exact absurd rfl (hno _ _ rfl)
   . exact absurd rfl (hnt _ _ rfl)
   exact DM.no _ _
  |_=>exact DM.no _ _
 cases op with
 |call c=>
  by_cases hf:∃f,c.callee= .value (.func f)
  . obtain ⟨f,hf⟩:=hf;have:cA P d (.call c) ts=nr P f d (c.args.toList.map (ev ts)):=by
     funext m k;simp only [cA,hf]
    rw [this];refine (DM.TV P f d _ m).mono λl hl=> ?_;obtain ⟨x,hx,hl⟩:=hl;obtain ⟨o,ho,rfl⟩:=q14.1 hx;exact ⟨o,by show o∈(Op.call c).operands.toList;simp only [Op.operands,Call.operands,Array.toList_append,List.mem_append];exact .inr ho,hl⟩
  by_cases hft:∃t,c.callee= .value (.tmp t)
  . obtain ⟨t,hft⟩:=hft;have:cA P d (.call c) ts=pK P (look ts t) d (c.args.toList.map (ev ts)):=by
     funext m k;simp only [cA,hft]
    rw [this];refine (DM.U6 P (look ts t) d _ m).mono λl hl=> ?_;rcases hl with ⟨x,hx,hl⟩|hl
    . obtain ⟨o,ho,rfl⟩:=q14.1 hx;exact ⟨o,by show o∈(Op.call c).operands.toList;simp only [Op.operands,Call.operands,Array.toList_append,List.mem_append];exact .inr ho,hl⟩
    exact ⟨.tmp t,by show Operand.tmp t∈(Op.call c).operands.toList;simp [Op.operands,Call.operands,hft],hl⟩
  by_cases hfa:∃x y,c.callee= .builtin .append/\c.args.toList=[x,y]
  . obtain ⟨x,y,hc,hx⟩:=hfa;have:cA P d (.call c) ts=kJ P c.argTypes.toList d (ev ts x) (ev ts y):=by
     funext m k;simp only [cA,hc,hx]
    rw [this];have hin:∀o,o∈c.args.toList->o∈G0 (Op.call c):=λo ho=>by show o∈(Op.call c).operands.toList;simp only [Op.operands,Call.operands,Array.toList_append,List.mem_append];exact .inr ho
    exact (DM.Wx P _ d _ _ m).mono λl hl=>hl.elim (λhl=>⟨x,hin x (by rw [hx];simp),hl⟩) λhl=>⟨y,hin y (by rw [hx];simp),hl⟩
  have:cA P d (.call c) ts=iK P d (.call c) ts:=by
   funext m k;simp only [cA];split
   . rename_i f hc;exact absurd ⟨f,hc⟩ hf
   . rename_i f hc;exact absurd ⟨f,hc⟩ hft
   . rename_i x y hc hx;exact absurd ⟨x,y,hc,hx⟩ hfa
   rfl
  rw [this];exact other (λ_ _ _ e=>(by cases e)) (λc' f e hc=>hf ⟨f,by injection e with e;rw [e];exact hc⟩) (λc' f e hc=>hft ⟨f,by injection e with e;rw [e];exact hc⟩) (λ_ _ _ _ _ e=>(by cases e)) (λ_ _ e=>(by cases e)) (λ_ _ _ e=>(by cases e)) (λc' x y e hc hx=>hfa ⟨x,y,by injection e with e;rw [e];exact hc,by injection e with e;rw [e];exact hx⟩)
 |binOp op t x y t2=>exact DM.ti _ λti=>nomem (G:=λk=>gK P t op (ev ts x) (ev ts y) k (kF op ti.kind (ev ts x) (ev ts y) k)) (D1.XV P t op ti.kind (ev ts x) (ev ts y))
 |load t x=>exact DM.ti _ λti=>(DM.load ti.agg ti.size (ev ts x) m).mono (rd x (by simp [G0,Op.operands]))
 |store t p y=>exact DM.ti _ λti=>(DM.store ti.size (ev ts p) (ev ts y) m).mono (rd p (by simp [G0]))
 |indexAddr t x i=>exact DM.ti _ λtt=>DM.sl _ (DM.ti _ λti=>DM.still (G:=λm k=>oK ti.sh m (ev ts x) (ev ts i) k) (D1.idx _ m _ _) λm' hm=>OI _ _ (lk x (by simp [G0,Op.operands]) m' hm))
 |_=>exact other (λ_ _ _ e=>(by cases e)) (λ_ _ e=>(by cases e)) (λ_ _ e=>(by cases e)) (λ_ _ _ _ _ e=>(by cases e)) (λ_ _ e=>(by cases e)) (λ_ _ _ e=>(by cases e)) (λ_ _ _ e=>(by cases e))
theorem Sl {P:Program} {d:Nat} {op:Op} {ts ts':Env} (h:∀o,o∈op.operands.toList->ev ts' o=ev ts o) (m:Mem) (k:AV->Mem->Prop):cA P d op ts' m k=cA P d op ts m k:=by
 have parts:∀(ps:Array (Nat × Operand)),(∀o,o∈(ps.toList.map (·.2))->ev ts' o=ev ts o)->(ps.toList.map λp=>(p.1,ev ts' p.2))=ps.toList.map λp=>(p.1,ev ts p.2):=by intro ps hp;refine List.map_congr_left λp hpp=> ?_;rw [hp p.2 (q14.2 ⟨p,hpp,rfl⟩)]
 have optm:∀(lo:Option Operand),(∀o,o∈lo.toList->ev ts' o=ev ts o)->lo.map (ev ts')=lo.map (ev ts):=by
  intro lo hp;cases lo with
  |none=>rfl
  |some o=>simp [hp o (by simp)]
 cases op with
 |call c=>
  obtain ⟨callee,args,tys⟩:=c;have hin:∀o,o∈args.toList->ev ts' o=ev ts o:=λo ho=>h o (by simp only [Op.operands,Call.operands,Array.toList_append,List.mem_append];exact .inr ho);have hcl:∀t,callee= .value (.tmp t)->look ts' t=look ts t:=λt e=>h (.tmp t) (by subst e;simp [Op.operands,Call.operands]);simp only [cA,iK];generalize args.toList=l at hin;split
  . rename_i f xs;rw [List.map_congr_left hin]
  . rw [List.map_congr_left hin,hcl _ rfl]
  . simp only [hin _ (q13 ..),hin _ (q12 _ (q13 ..))]
  split<;>first
   |rfl
   |(rename_i hx _;exact (hx _ rfl).elim)
   |(rename_i hx _ _;exact (hx _ rfl).elim)
   |simp only [hin _ (q13 ..),hin _ (q12 _ (q13 ..)),hin _ (q12 _ (q12 _ (q13 ..)))]
   |simp only [hin _ (q13 ..),hin _ (q12 _ (q13 ..))]
   |simp only [hin _ (q13 ..)]
 |makeFunc fn first caps=>
  cases fn<;>first
   |rfl
   |(simp only [cA,iK];rw [List.map_congr_left (λo ho=>h o (by simp [Op.operands];exact .inr (by simpa using ho)))])
 |build t ps=>simp only [cA,iK];rw [parts ps λo ho=>h o (by simpa [Op.operands] using ho)]
 |buildSlice t n ps=>simp only [cA,iK];rw [parts ps λo ho=>h o (by simpa [Op.operands] using ho)]
 |slice t x lo hi mx=>
  cases mx with
  |none=>simp only [cA,iK];rw [h x (by simp [Op.operands]),optm lo λo ho=>h o (by simp only [Op.operands];simp at ho ⊢;simp [ho]),optm hi λo ho=>h o (by simp only [Op.operands];simp at ho ⊢;simp [ho])]
  |some mx=>
   cases lo with
   |none=>simp only [cA,iK];rw [h x (by simp [Op.operands])]
   |some lo=>rfl
 |unOp op t x=>cases op<;>simp only [cA,iK]<;>rw [h x (by simp [Op.operands])]
 |pick c x y=>simp only [cA,iK];rw [h c (by simp [Op.operands]),h x (by simp [Op.operands]),h y (by simp [Op.operands])]
 |store t x y=>simp only [cA];rw [h x (by simp [Op.operands]),h y (by simp [Op.operands])]
 |binOp op t x y t2=>simp only [cA];rw [h x (by simp [Op.operands]),h y (by simp [Op.operands])]
 |makeSlice t x y=>simp only [cA,iK];rw [h x (by simp [Op.operands]),h y (by simp [Op.operands])]
 |indexAddr t x y=>simp only [cA];rw [h x (by simp [Op.operands]),h y (by simp [Op.operands])]
 |index t x y=>simp only [cA,iK];rw [h x (by simp [Op.operands]),h y (by simp [Op.operands])]
 |move x=>simp only [cA,iK];rw [h x (by simp [Op.operands])]
 |assign x=>simp only [cA,iK];rw [h x (by simp [Op.operands])]
 |box t x=>simp only [cA,iK];rw [h x (by simp [Op.operands])]
 |load t x=>simp only [cA];rw [h x (by simp [Op.operands])]
 |nilCheck x=>simp only [cA,iK];rw [h x (by simp [Op.operands])]
 |convert s t x=>simp only [cA,iK];rw [h x (by simp [Op.operands])]
 |fieldAddr t x f=>simp only [cA,iK];rw [h x (by simp [Op.operands])]
 |field t x f=>simp only [cA,iK];rw [h x (by simp [Op.operands])]
 |extract x i=>simp only [cA,iK];rw [h x (by simp [Op.operands])]
 |_=>rfl
structure Rec where
 x:AV
 new:Mem
def cI (ops:List Oper) (o:Oper) (ts:Env):Option Bool:=match o.guard with
 |none=>some true
 |some (j,w)=>match look ts (jK ops j) with
  | .val (.bool c)=>some (c==w)
  | .aX []=>some false
  |_=>none
def tR (ops:List Oper) (o:Oper):lN:=(o.op.operands.toList.filterMap fun| .tmp t=>some t|_=>none)++(match o.guard with|some (j,_)=>[jK ops j]|none=>[])
def vW (op:Op) (ts:Env):lN:=(G0 op).flatMap λo=>(ao (ev ts o)).map (·.1)
def YA (P:Program) (ops:List Oper) (o:Oper) (q:Rec) (rd:lN) (ts:Env) (m:Mem):Prop:=
 (cI ops o ts=some true/\(∀l,l∈vW o.op ts->l∈rd)/\∀m',(∀l,l∈vW o.op ts->ah m' l=ah m l)->(∀l,l∈q.new.map (·.1)->ah m' l=ah m l)->∀k,k q.x (q.new++m')->cA P (o.dst.getD 0) o.op ts m' k)∨
 (cI ops o ts=some false/\q.x= .aX []/\q.new=[])
theorem HM {ts ts':Env} {o:Operand} (h:∀t,o= .tmp t->look ts' t=look ts t):ev ts' o=ev ts o:=by
 cases o with
 |tmp t=>exact h t rfl
 |_=>rfl
theorem Lf {ops:List Oper} {o:Oper} {ts ts':Env} (h:∀t,t∈tR ops o->look ts' t=look ts t):∀x,x∈o.op.operands.toList->ev ts' x=ev ts x:=λx hx=>
 HM λt ht=>h t (by
  subst ht;unfold tR
  exact List.mem_append_left _ (List.mem_filterMap.2 ⟨_,hx,rfl⟩))
theorem vf {ops:List Oper} {o:Oper} {ts ts':Env} (h:∀t,t∈tR ops o->look ts' t=look ts t):cI ops o ts'=cI ops o ts:=by
 unfold cI;split
 . rfl
 rename_i j w hg;rw [h (jK ops j) (by unfold tR;rw [hg];exact List.mem_append_right _ (List.mem_singleton.2 rfl))]
theorem YA.local {P:Program} {ops:List Oper} {o:Oper} {q:Rec} {rd:lN} {ts ts':Env} {m m':Mem} (h:YA P ops o q rd ts m) (ht:∀t,t∈tR ops o->look ts' t=look ts t)
 (hr:∀l,l∈rd->ah m' l=ah m l) (hn:∀l,l∈q.new.map (·.1)->ah m' l=ah m l):YA P ops o q rd ts' m':=by
 have hev:=Lf ht;have hrd:vW o.op ts'=vW o.op ts:=by unfold vW;rw [List.flatMap_def,List.flatMap_def,List.map_congr_left λx hx=>by rw [hev x (Sk hx)]]
 rcases h with ⟨h1,h2,h3⟩|⟨h1,h2,h3⟩
 . refine .inl ⟨(vf ht).trans h1,λl hl=>h2 l (hrd▸hl),λm'' hm hm' k hk=> ?_⟩;rw [Sl hev];exact h3 m'' (λl hl=>(hm l (hrd▸hl)).trans (hr l (h2 l hl))) (λl hl=>(hm' l hl).trans (hn l hl)) k hk
 exact .inr ⟨(vf ht).trans h1,h2,h3⟩
def dx (os:Nat->Oper) (qs:Nat->Rec) (D:Nat->Bool) (ts:Env) (m:Mem):Nat->Env × Mem
 |0=>(ts,m)
 |i+1=>if D i then (mB (os i).dst (qs i).x (dx os qs D ts m i).1,(qs i).new++(dx os qs D ts m i).2) else dx os qs D ts m i
section
variable {os:Nat->Oper} {qs:Nat->Rec} {D D':Nat->Bool} {ts:Env} {m:Mem}
theorem pL (d:Option Nat) (x:AV) (ts:Env) (t:Nat):look (mB d x ts) t=if d=some t then x else look ts t:=by
 cases d with
 |none=>simp [mB]
 |some d=>simp [mB,cM]
theorem kv {new m:Mem} {l:Nat} (h:l∉new.map (·.1)):ah (new++m) l=ah m l:=by
 induction new with
 |nil=>rfl
 |cons p r ih=>
  obtain ⟨k,v⟩:=p;simp only [List.map_cons,q11,not_or] at h;rw [List.cons_append,aw,if_neg (λe=>h.1 e.symm),ih h.2]
theorem su {new m m':Mem} {l:Nat} (h:l∈new.map (·.1)):ah (new++m) l=ah (new++m') l:=by
 induction new with
 |nil=>cases h
 |cons p r ih=>
  obtain ⟨k,v⟩:=p;simp only [List.cons_append,aw];by_cases e:k=l
  . simp [e]
  simp only [if_neg e];exact ih (by simp only [List.map_cons,q11] at h;exact h.resolve_left λhh=>e hh.symm)
theorem x8 {t:Nat}:∀(hi:Nat) (lo:Nat),lo<=hi->(∀i,lo<=i->i<hi->D i≠D' i->(os i).dst≠some t)->look (dx os qs D ts m lo).1 t=look (dx os qs D' ts m lo).1 t→
 look (dx os qs D ts m hi).1 t=look (dx os qs D' ts m hi).1 t
 |0,lo,hl,_,h=>by rw [show lo=0 by omega] at h;exact h
 |hi+1,lo,hl,hd,h=>by
  by_cases e:lo=hi+1
  . subst e;exact h
  have ih:=x8 hi lo (by omega) (λi h1 h2=>hd i h1 (by omega)) h;have hne:=hd hi (by omega) (by omega);simp only [dx];cases h1:D hi<;>cases h2:D' hi<;>simp only [q3,if_true,if_false]<;>(try simp only [pL])
  . exact ih
  . rw [if_neg (hne (by simp [h1,h2]))];exact ih
  . rw [if_neg (hne (by simp [h1,h2]))];exact ih
  rw [ih]
theorem pM {l:Nat}:∀(hi:Nat) (lo:Nat),lo<=hi->(∀i,lo<=i->i<hi->D i≠D' i->l∉(qs i).new.map (·.1))->ah (dx os qs D ts m lo).2 l=ah (dx os qs D' ts m lo).2 l→
 ah (dx os qs D ts m hi).2 l=ah (dx os qs D' ts m hi).2 l
 |0,lo,hl,_,h=>by rw [show lo=0 by omega] at h;exact h
 |hi+1,lo,hl,hd,h=>by
  by_cases e:lo=hi+1
  . subst e;exact h
  have ih:=pM hi lo (by omega) (λi h1 h2=>hd i h1 (by omega)) h;have hne:=hd hi (by omega) (by omega);simp only [dx];cases h1:D hi<;>cases h2:D' hi<;>simp only [q3,if_true,if_false]
  . exact ih
  . rw [kv (hne (by simp [h1,h2]))];exact ih
  . rw [kv (hne (by simp [h1,h2]))];exact ih
  by_cases hl:l∈(qs hi).new.map (·.1)
  . exact su hl
  rw [kv hl,kv hl];exact ih
theorem kO {j:Nat}:∀(i:Nat),i<=j->(∀q,q<j->D q=D' q)->dx os qs D ts m i=dx os qs D' ts m i
 |0,_,_=>rfl
 |i+1,hi,h=>by simp only [dx];rw [kO i (by omega) h,h i (by omega)]
theorem mJ {j:Nat} (h:∀q,j<=q->D q=false):∀(i:Nat),j<=i->dx os qs D ts m i=dx os qs D ts m j
 |0,hi=>by rw [show j=0 by omega]
 |i+1,hi=>by
  by_cases e:j=i+1
  . rw [e]
  simp only [dx];rw [h i (by omega)];simpa using mJ h i (by omega)
end
def ins (a xs:lN):lN:=xs.foldl (λa x=>if a.contains x then a else x::a) a
theorem JI {x:Nat}:∀(xs a:lN),x∈ins a xs->x∈a\/x∈xs
 | [],a,h=>.inl h
 |y::r,a,h=>by
  simp only [ins,List.foldl_cons] at h;rcases JI r _ h with h|h
  . split at h
    . exact .inl h
    rcases q11.1 h with rfl|h
    . exact .inr (q13 ..)
    exact .inl h
  exact .inr (q12 _ h)
def iB (o:Oper):lN:=(o.after.toList.filter (Region.binds .any)).map (·.on)
def TX (acc:List lN) (o:Oper):lN:=(iB o).foldl (λa i=>ins a (i::acc.getD i [])) []
theorem BB {x:Nat} {acc:List lN}:∀(ps a:lN),x∈ps.foldl (λa i=>ins a (i::acc.getD i [])) a->x∈a\/∃i,i∈ps/\(x=i\/x∈acc.getD i [])
 | [],a,h=>.inl h
 |p::r,a,h=>by
  rw [List.foldl_cons] at h;rcases BB r _ h with h|⟨i,hi,h⟩
  . rcases JI _ _ h with h|h
    . exact .inl h
    exact .inr ⟨p,q13 ..,q11.1 h⟩
  exact .inr ⟨i,q12 _ hi,h⟩
def x9:List Oper->List lN->List lN
 | [],acc=>acc
 |o::r,acc=>x9 r (acc++[TX acc o])
def ik (ops:List Oper) (D:Nat->Bool):Prop:=∀j o,ops[j]? =some o->D j=true->∀i,i∈iB o->D i=true
theorem jC {ops:List Oper} {D:Nat->Bool} (hD:ik ops D):∀(l:List Oper) (acc:List lN),ops.drop acc.length=l->(∀j x,x∈acc.getD j []->D j=true->D x=true)→
 ∀j x,x∈(x9 l acc).getD j []->D j=true->D x=true
 | [],acc,_,h=>h
 |o::r,acc,hl,h=>by
  have hoi:ops[acc.length]? =some o:=by have:=congrArg (·[0]?) hl;simpa using this
  refine jC hD r (acc++[TX acc o]) ?_ ?_
  . have:=congrArg List.tail hl;simpa using this
  intro j x hx hj;by_cases e:j<acc.length
  . refine h j x ?_ hj
    rwa [q6,List.getElem?_append_left e,←q6] at hx
  by_cases e2:j=acc.length
  . subst e2;rw [q6,List.getElem?_append_right (q17 _)] at hx;simp only [Nat.sub_self,List.getElem?_cons_zero,Option.getD_some] at hx;rcases BB _ _ hx with hx|⟨i,hi,hx⟩
    . cases hx
    have h1:=hD _ o hoi hj i hi;rcases hx with rfl|hx
    . exact h1
    exact h i x hx h1
  rw [q6,q8 (by simp;omega)] at hx;cases hx
def HN (ops:List Oper) (oi oj:Oper) (ti tj:lN × lN):Bool:=
 (match oi.dst with|some d=> !(tR ops oj).contains d&&oj.dst != some d|none=>true)&&(match oj.dst with|some d=> !(tR ops oi).contains d|none=>true)&&
 ti.2.all (λl=> !tj.1.contains l&& !tj.2.contains l)&&tj.2.all (λl=> !ti.1.contains l)
def vg (ops:List Oper):Bool:=(List.range ops.length).all λi=>match ops[i]? with|some o=>(iB o).all λp=>decide (p<i)|none=>true
def mK (ops:List Oper) (tr:List (lN × lN)):Bool:=
 vg ops&&(List.range ops.length).all λj=>(List.range j).all λi=>((x9 ops []).getD j []).contains i||
  match ops[i]?,ops[j]?,tr[i]?,tr[j]? with
  |some oi,some oj,some ti,some tj=>HN ops oi oj ti tj
  |_,_,_,_=>false
structure CS (ops:List Oper) (oi oj:Oper) (ri rj wi wj:lN):Prop where
 t1:∀d,oi.dst=some d->d∉tR ops oj
 t2:∀d,oj.dst=some d->d∉tR ops oi
 t3:∀d,oi.dst=some d->oj.dst≠some d
 l1:∀l,l∈wi->l∉rj
 l2:∀l,l∈wj->l∉ri
 l3:∀l,l∈wi->l∉wj
theorem HO {ops:List Oper} {oi oj:Oper} {ti tj:lN × lN} (h:HN ops oi oj ti tj=true):CS ops oi oj ti.1 tj.1 ti.2 tj.2:=by
 simp only [HN,Bool.and_eq_true,q4,Bool.not_eq_true',List.contains_eq_mem,decide_eq_false_iff_not] at h;obtain ⟨⟨⟨h1,h2⟩,h3⟩,h4⟩:=h;refine ⟨λd hd=> ?_,λd hd=> ?_,λd hd=> ?_,λl hl=>(h3 l hl).1,λl hl=>h4 l hl,λl hl=>(h3 l hl).2⟩
 . rw [hd] at h1;simp at h1;exact h1.1
 . rw [hd] at h2;simp at h2;exact h2
 rw [hd] at h1;simp at h1;exact h1.2
theorem BC {ops:List Oper} {tr:List (lN × lN)} (h:mK ops tr=true) {D:Nat->Bool} (hD:ik ops D) {i j:Nat} (hij:i<j) {oi oj:Oper} {ti tj:lN × lN}
 (hi:ops[i]? =some oi) (hj:ops[j]? =some oj) (h1:tr[i]? =some ti) (h2:tr[j]? =some tj) (hd:¬(D j=true->D i=true)):CS ops oi oj ti.1 tj.1 ti.2 tj.2:=by
 have hjl:j<ops.length:=(q9.1 hj).1;simp only [mK,Bool.and_eq_true,q4,List.mem_range,Bool.or_eq_true,List.contains_eq_mem,decide_eq_true_eq] at h;rcases h.2 j hjl i hij with hh|hh
 . exact absurd (jC hD ops [] rfl (λj x hx=>by simp at hx) j i hh) hd
 rw [hi,hj,h1,h2] at hh;exact HO hh
section
variable {P:Program} {B:eC} {N:Nat} {φ:Nat->LS} {fp:Nat->lN} {S:nP} {ts:Env} {m:Mem} {a:Act} {w:World}
theorem RS.ext (h:RS B N φ fp S ts m a w) {ts':Env} {m':Mem} (ht:∀t,look ts' t=look ts t) (hm:∀l,ah m' l=ah m l):RS B N φ fp S ts' m' a w:=by
 have hk:∀l af,known m l af->known m' l af:=λl af ⟨k,h1,h2⟩=>⟨k,(hm l).trans h1,h2⟩
 exact {h with
  kn:=λl af hl hk=>by obtain ⟨k,h1,h2⟩:=h.kn l af hl hk;exact ⟨k,(hm l).trans h1,h2⟩
  tm:=λt=>by rw [ht t];exact h.tm t
  tl:=λt l af hl=>hk l af (h.tl t l af (by rw [←ht t];exact hl))
  b_:=λl hl=>h.b_ l ((hm l).symm.trans hl)
  aG:=λl k hl=>h.aG l k ((hm l).symm.trans hl)
  bl:=λl v xs hl l' af hlv=>hk l' af (h.bl l v xs ((hm l).symm.trans hl) l' af hlv)}
variable {os:Nat->Oper} {qs:Nat->Rec} {D D':Nat->Bool} {ops:List Oper} {tr:List (lN × lN)}
theorem Fb {lo:Nat} {t:Nat}:∀(hi:Nat),lo<=hi->(∀i,lo<=i->i<hi->D i=true->(os i).dst≠some t)->look (dx os qs D ts m hi).1 t=look (dx os qs D ts m lo).1 t
 |0,hl,_=>by rw [show lo=0 by omega]
 |hi+1,hl,h=>by
  by_cases e:lo=hi+1
  . rw [e]
  have ih:=Fb hi (by omega) λi h1 h2=>h i h1 (by omega);simp only [dx];cases hd:D hi with
  |false=>simpa using ih
  |true=>
   simp only [if_true,pL];rw [if_neg (h hi (by omega) (by omega) hd)];exact ih
theorem BD {lo:Nat} {l:Nat}:∀(hi:Nat),lo<=hi->(∀i,lo<=i->i<hi->D i=true->l∉(qs i).new.map (·.1))->ah (dx os qs D ts m hi).2 l=ah (dx os qs D ts m lo).2 l
 |0,hl,_=>by rw [show lo=0 by omega]
 |hi+1,hl,h=>by
  by_cases e:lo=hi+1
  . rw [e]
  have ih:=BD hi (by omega) λi h1 h2=>h i h1 (by omega);simp only [dx];cases hd:D hi with
  |false=>simpa using ih
  |true=>
   simp only [if_true];rw [kv (h hi (by omega) (by omega) hd)];exact ih
structure Sm (P:Program) (sk:Nat) (ops:List Oper) (os:Nat->Oper) (qs:Nat->Rec) (tr:List (lN × lN)) (ts:Env) (m:Mem):Prop where
 oe:∀i o,sk<=i->ops[i]? =some o->os i=o
 ya:∀i o,sk<=i->ops[i]? =some o->∃t,tr[i]? =some t/\YA P ops o (qs i) t.1 (dx os qs (λ_=>true) ts m i).1 (dx os qs (λ_=>true) ts m i).2/\∀l,l∈(qs i).new.map (·.1)->l∈t.2
def iU (D:Nat->Bool) (j:Nat):Nat->Bool:=λi=>D i||i==j
theorem ik.add {j:Nat} {o:Oper} (h:ik ops D) (ho:ops[j]? =some o) (hp:∀i,i∈iB o->D i=true):ik ops (iU D j):=by
 intro k o' hk hd i hi;simp only [iU,Bool.or_eq_true,beq_iff_eq] at hd ⊢;rcases hd with hd|rfl
 . exact .inl (h k o' hk hd i hi)
 rw [ho] at hk;injection hk with hk;subst hk;exact .inl (hp i hi)
theorem Sm.U7 {sk:Nat} (hR:Sm P sk ops os qs tr ts m) (hB:mK ops tr=true) (hD:ik ops D) (hn:∀i,D i=true->i<ops.length) (hsk:∀i,i<sk->D i=true) {j:Nat} {o:Oper} (ho:ops[j]? =some o) (hj:D j=false)
 (hp:∀i,i∈iB o->D i=true):
 (∃rd,YA P ops o (qs j) rd (dx os qs D ts m ops.length).1 (dx os qs D ts m ops.length).2)∧
 (∀t,look (dx os qs (iU D j) ts m ops.length).1 t=look (mB o.dst (qs j).x (dx os qs D ts m ops.length).1) t)∧
 (∀l,ah (dx os qs (iU D j) ts m ops.length).2 l=ah ((qs j).new++(dx os qs D ts m ops.length).2) l):=by
 have hjn:j<ops.length:=(q9.1 ho).1;have Xo:sk<=j:=by
  rcases Nat.lt_or_ge j sk with h|h
  . rw [hsk j h] at hj;cases hj
  exact h
 obtain ⟨t,ht,hya,iu⟩:=hR.ya j o Xo ho;have hoj:=hR.oe j o Xo ho;have M9:∀i,sk<=i->i<ops.length->∃(oi:Oper) (ti:lN × lN),ops[i]? =some oi/\os i=oi/\tr[i]? =some ti/\∀l,l∈(qs i).new.map (·.1)->l∈ti.2:=by intro i hsi hi;have h1:ops[i]? =some ops[i]:=q7 hi;obtain ⟨ti,h2,_,h3⟩:=hR.ya i _ hsi h1;exact ⟨_,ti,h1,hR.oe i _ hsi h1,h2,h3⟩
 have early:∀i,i<j->D i=false->∃(oi:Oper) (ti:lN × lN),os i=oi/\(∀l,l∈(qs i).new.map (·.1)->l∈ti.2)/\CS ops oi o ti.1 t.1 ti.2 t.2:=by
  intro i hi hdi;have hsi:sk<=i:=by
   rcases Nat.lt_or_ge i sk with h|h
   . rw [hsk i h] at hdi;cases hdi
   exact h
  obtain ⟨oi,ti,h1,h2,h3,h4⟩:=M9 i hsi (by omega);refine ⟨oi,ti,h2,h4,BC hB (hD.add ho hp) hi h1 ho h3 ht λhh=> ?_⟩;have:=hh (by simp [iU]);simp only [iU,hdi,Bool.false_or,beq_iff_eq] at this;omega
 have late:∀i,j<i->D i=true->∃(oi:Oper) (ti:lN × lN),os i=oi/\(∀l,l∈(qs i).new.map (·.1)->l∈ti.2)/\CS ops o oi t.1 ti.1 t.2 ti.2:=by intro i hi hdi;obtain ⟨oi,ti,h1,h2,h3,h4⟩:=M9 i (by omega) (hn i hdi);refine ⟨oi,ti,h2,h4,BC hB hD hi ho h1 ht h3 λhh=> ?_⟩;have:=hh hdi;rw [hj] at this;cases this
 have dC:dx os qs (λ_=>true) ts m j=dx os qs (λi=>decide (i<j)) ts m ops.length:=by rw [mJ (j:=j) (λq hq=>by simp;omega) ops.length (by omega)];exact kO j (q17 _) λq hq=>by simp [hq]
 rw [dC] at hya;refine ⟨⟨t.1,hya.local (λu hu=> ?_) (λl hl=> ?_) (λl hl=> ?_)⟩,λu=> ?_,λl=> ?_⟩
 . refine x8 ops.length 0 (Nat.zero_le _) (λi _ hi hne=> ?_) rfl;rcases Nat.lt_trichotomy i j with h|h|h
   . simp only [h,decide_true] at hne;obtain ⟨oi,ti,h1,h2,h3⟩:=early i h (by simpa using hne);rw [h1];exact λhd=>h3.t1 _ hd hu
   . subst h;simp [hj] at hne
   have:decide (i<j)=false:=(by simp;omega);rw [this] at hne;obtain ⟨oi,ti,h1,h2,h3⟩:=late i h (by simpa using hne);rw [h1];exact λhd=>h3.t2 _ hd hu
 . refine pM ops.length 0 (Nat.zero_le _) (λi _ hi hne=> ?_) rfl;rcases Nat.lt_trichotomy i j with h|h|h
   . simp only [h,decide_true] at hne;obtain ⟨oi,ti,h1,h2,h3⟩:=early i h (by simpa using hne);exact λhd=>h3.l1 _ (h2 l hd) hl
   . subst h;simp [hj] at hne
   have:decide (i<j)=false:=(by simp;omega);rw [this] at hne;obtain ⟨oi,ti,h1,h2,h3⟩:=late i h (by simpa using hne);exact λhd=>h3.l2 _ (h2 l hd) hl
 . refine pM ops.length 0 (Nat.zero_le _) (λi _ hi hne=> ?_) rfl;rcases Nat.lt_trichotomy i j with h|h|h
   . simp only [h,decide_true] at hne;obtain ⟨oi,ti,h1,h2,h3⟩:=early i h (by simpa using hne);exact λhd=>h3.l3 _ (h2 l hd) (iu l hl)
   . subst h;simp [hj] at hne
   have:decide (i<j)=false:=(by simp;omega);rw [this] at hne;obtain ⟨oi,ti,h1,h2,h3⟩:=late i h (by simpa using hne);exact λhd=>h3.l3 _ (iu l hl) (h2 l hd)
 . rw [pL];by_cases hd:o.dst=some u
   . rw [if_pos hd]
     rw [Fb (lo:=j+1) ops.length hjn λi h1 h2 h3=>by
      have hdi:D i=true:=by simp only [iU,Bool.or_eq_true,beq_iff_eq] at h3;exact h3.resolve_right (by omega)
      obtain ⟨oi,ti,g1,_,g3⟩:=late i h1 hdi;rw [g1]
      exact g3.t3 u hd]
     simp only [dx,iU,beq_self_eq_true,Bool.or_true,if_true,pL,hoj,hd]
   rw [if_neg hd];refine x8 ops.length 0 (Nat.zero_le _) (λi _ hi hne=> ?_) rfl;have:i=j:=by
    by_cases e:i=j
    . exact e
    have:(i==j)=false:=(by simpa using e);simp [iU,this] at hne
   subst this;rw [hoj];exact hd
 by_cases hd:l∈(qs j).new.map (·.1)
 . rw [BD (lo:=j+1) ops.length hjn λi h1 h2 h3=>by
    have hdi:D i=true:=by simp only [iU,Bool.or_eq_true,beq_iff_eq] at h3;exact h3.resolve_right (by omega)
    obtain ⟨oi,ti,g1,g2,g3⟩:=late i h1 hdi
    exact λhl=>g3.l3 l (iu l hd) (g2 l hl)]
   simp only [dx,iU,beq_self_eq_true,Bool.or_true,if_true];exact su hd
 rw [kv hd];refine pM ops.length 0 (Nat.zero_le _) (λi _ hi hne=> ?_) rfl;have:i=j:=by
  by_cases e:i=j
  . exact e
  have:(i==j)=false:=by simpa using e
  simp [iU,this] at hne
 subst this;exact hd
theorem cr (h:RS B N φ fp S ts m a w) (hgs:dj N ops=true) {j:Nat} {o:Oper} (ho:ops[j]? =some o) {b:Bool} (hw:cI ops o ts=some b):Region.wanted o (yielded ops.toArray a.tmps)=b:=by
 unfold cI at hw;unfold Region.wanted;split at hw
 . rename_i hg;rw [hg];injection hw
 rename_i i v hg;rw [hg];split at hw
 . rename_i c hl;have hgo:=q4.1 hgs o (List.mem_of_getElem? ho);rw [hg] at hgo;have hj:∃d,((ops[i]?).bind (·.dst))=some d/\d<N:=by
    simp only at hgo;split at hgo
    . rename_i d hd;exact ⟨d,hd,by simpa using hgo⟩
    cases hgo
   have hy:=EM h hl hj;simp only [hy];injection hw
 . rename_i hl;have hgo:=q4.1 hgs o (List.mem_of_getElem? ho);rw [hg] at hgo;have hj:∃d,((ops[i]?).bind (·.dst))=some d/\d<N:=by
    simp only at hgo;split at hgo
    . rename_i d hd;exact ⟨d,hd,by simpa using hgo⟩
    cases hgo
   have hy:=xE h hl hj;simp only [hy];injection hw with hw
 cases hw
theorem pN {f g:Nat->Bool}:∀(l:lN) (j:Nat),j∈l->f j=true->g j=false->(∀i,g i=true->f i=true)->l.countP g<l.countP f
 |x::r,j,hj,hf,hg,h=>by
  have hle:∀l:lN,l.countP g<=l.countP f:=λl=>List.countP_mono_left λi _ hi=>h i hi;rw [List.countP_cons,List.countP_cons];rcases q11.1 hj with rfl|hj
  . have:=hle r;simp [hf,hg];omega
  have:=pN r j hj hf hg h;have h1:=h x;cases hgx:g x<;>cases hfx:f x<;>simp_all<;>(try omega)
def CT (n:Nat) (listed:Array Bool):Nat:=(List.range n).countP λi=> !listed.getD i false
theorem BE {sk:Nat} {ts0:Env} {m0:Mem} (hR:Sm P sk ops os qs tr ts0 m0) (hB:mK ops tr=true) (hok:jL N ops=true) (hgs:dj N ops=true) {Q:Exit->Act->World->Prop} {K:St}
 (hK:K (dx os qs (λ_=>true) ts0 m0 ops.length).1 (dx os qs (λ_=>true) ts0 m0 ops.length).2) (hQ:∀a w,ic B N K a w->Q .normal a w):
 ∀(fuel:Nat) (listed:Array Bool) (φ:Nat->LS) (fp:Nat->lN) (S:nP) (a:Act) (w:World),listed.size=ops.length->ik ops (λi=>listed.getD i false)->(∀i,i<sk->listed.getD i false=true)->CT ops.length listed<=fuel→
  RS B N φ fp S (dx os qs (λi=>listed.getD i false) ts0 m0 ops.length).1 (dx os qs (λi=>listed.getD i false) ts0 m0 ops.length).2 a w->wpAny P .any ops.toArray Q fuel listed a w:=by
 have qF:∀i o,ops[i]? =some o->∀p,p∈iB o->p<i:=by intro i o ho p hp;simp only [mK,vg,Bool.and_eq_true,q4,List.mem_range] at hB;have:=hB.1 i (q9.1 ho).1;rw [ho] at this;simpa using q4.1 this p hp
 have cO:∀(listed:Array Bool),listed.size=ops.length->Region.ready .any ops.toArray listed=[]->∀i,i<ops.length->listed.getD i false=true:=by
  intro listed hs hr i;induction i using Nat.strongRecOn with
  |ind i ih=>
   intro hi;cases hl:listed.getD i false with
   |true=>rfl
   |false=>
    have ho:ops[i]? =some ops[i]:=q7 hi
    have:i∈Region.ready .any ops.toArray listed:=mem_ready.2 ⟨getD_in (by omega) hl,ops[i],by simpa using ho,λe he hb=>by
     have hp:e.on∈iB ops[i]:=q14.2 ⟨e,List.mem_filter.2 ⟨by simpa using he,hb⟩,rfl⟩;have hlt:=qF i _ ho _ hp
     exact ih e.on hlt (by omega)⟩
    rw [hr] at this;cases this
 have cy:∀(listed:Array Bool) (φ:Nat->LS) (fp:Nat->lN) (S:nP) (a:Act) (w:World),(∀i,i<ops.length->listed.getD i false=true)→
  RS B N φ fp S (dx os qs (λi=>listed.getD i false) ts0 m0 ops.length).1 (dx os qs (λi=>listed.getD i false) ts0 m0 ops.length).2 a w->Q .normal a w:=by
  intro listed φ fp S a w hl h;have e:dx os qs (λi=>listed.getD i false) ts0 m0 ops.length=dx os qs (λ_=>true) ts0 m0 ops.length:=kO ops.length (q17 _) λq hq=>hl q hq;rw [e] at h;exact hQ a w ⟨φ,fp,S,_,_,h,hK⟩
 intro fuel;induction fuel with
 |zero=>
  intro listed φ fp S a w hs hc hsk hf h;have hl:∀i,i<ops.length->listed.getD i false=true:=by
   intro i hi;cases hl:listed.getD i false with
   |true=>rfl
   |false=>
    have h0:CT ops.length listed=0:=Nat.le_zero.1 hf;have:=List.countP_eq_zero.1 h0 i (List.mem_range.2 hi);rw [hl] at this;exact absurd rfl this
  refine ⟨?_,cy listed φ fp S a w hl h⟩;cases hr:Region.ready .any ops.toArray listed with
  |nil=>rfl
  |cons j r=>
   have hj:j∈Region.ready .any ops.toArray listed:=(by rw [hr];exact q13 ..);obtain ⟨h0,o,ho,_⟩:=mem_ready.1 hj;have hjn:j<ops.length:=(by simpa using (q1.1 ho).1);have:=hl j hjn;rw [getD_both h0] at this;cases this
 |succ fuel ih=>
  intro listed φ fp S a w hs hc hsk hf h;refine ⟨λhr=>cy listed φ fp S a w (cO listed hs hr) h,λj hj=> ?_⟩;obtain ⟨h0,o,ho,dC⟩:=mem_ready.1 hj;have hdj:listed.getD j false=false:=getD_both h0;have ho':ops[j]? =some o:=by simpa using ho
  have hjn:j<ops.length:=(q9.1 ho').1;have hp:∀i,i∈iB o->listed.getD i false=true:=by intro i hi;obtain ⟨e,he,rfl⟩:=q14.1 hi;obtain ⟨he1,he2⟩:=List.mem_filter.1 he;exact dC e (by simpa using he1) he2
  obtain ⟨⟨rd,hya⟩,hlk,hlb⟩:=hR.U7 (D:=λi=>listed.getD i false) hB hc (λi hi=>by
   rcases Nat.lt_or_ge i listed.size with h'|h'
   . omega
   rw [q0,Array.getElem?_eq_none h'] at hi;cases hi) hsk ho' hdj hp
  have hD':(λi=>(listed.setIfInBounds j true).getD i false)=iU (λi=>listed.getD i false) j:=by
   funext i;by_cases e:i=j
   . subst e;simp [iU,hs,hjn]
   have e2:(i==j)=false:=(by simpa using e);rw [getD_set_ne false (Ne.symm e)];simp [iU,e2]
  have hf':CT ops.length (listed.setIfInBounds j true)<=fuel:=by
   have:CT ops.length (listed.setIfInBounds j true)<CT ops.length listed:=by
    refine pN _ j (List.mem_range.2 hjn) (by simp only [hdj];rfl) (by simp [hs,hjn]) λi hi=> ?_;by_cases e:i=j
    . subst e;rw [hdj];rfl
    rw [getD_set_ne false (Ne.symm e)] at hi;exact hi
   omega
  have next:∀a' w',ic B N (λts m=>ts=mB o.dst (qs j).x (dx os qs (λi=>listed.getD i false) ts0 m0 ops.length).1/\m=(qs j).new++(dx os qs (λi=>listed.getD i false) ts0 m0 ops.length).2) a' w'→
   wpAny P .any ops.toArray Q fuel (listed.setIfInBounds j true) a' w':=by
   rintro a' w' ⟨φ',fp',S',ts',m',h',rfl,rfl⟩
   refine ih _ φ' fp' S' a' w' (by simp [hs]) (by rw [hD'];exact hc.add ho' hp) (λi hi=>by
    by_cases e:i=j
    . subst e;simp [hs,hjn]
    rw [getD_set_ne false (Ne.symm e)];exact hsk i hi) hf' ?_
   rw [hD'];exact h'.ext hlk hlb
  have hdo:∀d,o.dst=some d->d<N:=by intro d hd;have:=q4.1 hok o (List.mem_of_getElem? ho');rw [hd] at this;simpa using this
  unfold wpOp;simp only [ho];rcases hya with ⟨hw,_,cG⟩|⟨hw,hx,iu⟩
  . rw [cr h hgs ho' hw];simp only [if_true];refine .inl (gb h (x7 (cG _ (λ_ _=>rfl) (λ_ _=>rfl) (λx m'=>x=(qs j).x/\m'=(qs j).new++(dx os qs (λi=>listed.getD i false) ts0 m0 ops.length).2) ⟨rfl,rfl⟩)) λv w' hg=> ?_);exact next _ _ (step_done hdo hg λx m' ⟨h1,h2⟩=>⟨by rw [h1],h2⟩)
  rw [cr h hgs ho' hw];simp only [q3,if_false];refine next _ _ (step_done (k:=λx m'=>x= .aX []/\m'=(dx os qs (λi=>listed.getD i false) ts0 m0 ops.length).2) hdo (h.gives (x:=.aX []) (.rd _ _ (.aX [] #[] rfl λi hi=>absurd hi (q20 _))) (λ_ _ hl=>by cases hl) ⟨rfl,rfl,rfl⟩) λx m' ⟨h1,h2⟩=>⟨by rw [h1,hx],by rw [h2,iu];rfl⟩)
end
def zw (m' m:Mem):lN:=(m'.take (m'.length-m.length)).map (·.1)
theorem Sn (new m:Mem):zw (new++m) m=new.map (·.1):=by unfold zw;rw [List.length_append,Nat.add_sub_cancel,List.take_left'];rfl
def sD (P:Program) (ops:List Oper):List Oper->Env->Mem->List (lN × lN)->St->Prop
 | [],ts,m,tr,k=>mK ops tr.reverse=true/\k ts m
 |o::r,ts,m,tr,k=>match o.guard with
  |none=>cA P (o.dst.getD 0) o.op ts m λx m'=>sD P ops r (mB o.dst x ts) m' ((vW o.op ts,zw m' m)::tr) k
  |some (j,want)=>gg want (look ts (jK ops j)) (cA P (o.dst.getD 0) o.op ts m λx m'=>sD P ops r (mB o.dst x ts) m' ((vW o.op ts,zw m' m)::tr) k)
    (sD P ops r (mB o.dst (.aX []) ts) m (([],[])::tr) k)
theorem mem_keys {new:Mem} {l:Nat} (h:ah new l≠none):l∈new.map (·.1):=by
 induction new with
 |nil=>exact absurd rfl h
 |cons p r ih=>
  obtain ⟨k,v⟩:=p;rw [aw] at h;by_cases e:k=l
  . simp [e]
  rw [if_neg e] at h;exact q12 _ (ih h)
theorem HP {os:Nat->Oper} {qs qs':Nat->Rec} {D:Nat->Bool} {ts:Env} {m:Mem}:∀(i:Nat),(∀j,j<i->qs j=qs' j)->dx os qs D ts m i=dx os qs' D ts m i
 |0,_=>rfl
 |i+1,h=>by simp only [dx];rw [HP i λj hj=>h j (by omega),h i (by omega)]
def XY (P:Program) (sk:Nat) (ops:List Oper) (os:Nat->Oper) (qs:Nat->Rec) (tr:List (lN × lN)) (ts:Env) (m:Mem) (n:Nat):Prop:=
 ∀i o,sk<=i->i<n->ops[i]? =some o->∃t,tr[i]? =some t/\YA P ops o (qs i) t.1 (dx os qs (λ_=>true) ts m i).1 (dx os qs (λ_=>true) ts m i).2/\∀l,l∈(qs i).new.map (·.1)->l∈t.2
theorem x_ {P:Program} {sk:Nat} {ops:List Oper} {os:Nat->Oper} (hos:∀i o,sk<=i->ops[i]? =some o->os i=o) {ts0:Env} {m0:Mem} {K:St}:
 ∀(r:List Oper) (i:Nat) (qs:Nat->Rec) (tr:List (lN × lN)) (ts:Env) (m:Mem),ops.drop i=r->sk<=i->i<=ops.length->tr.length=i->dx os qs (λ_=>true) ts0 m0 i=(ts,m)->XY P sk ops os qs tr.reverse ts0 m0 i->sD P ops r ts m tr K→
  ∃qs' tr,Sm P sk ops os qs' tr ts0 m0/\mK ops tr=true/\K (dx os qs' (λ_=>true) ts0 m0 ops.length).1 (dx os qs' (λ_=>true) ts0 m0 ops.length).2/\∀j,j<i->qs' j=qs j
 | [],i,qs,tr,ts,m,hl,Xp,hin,ht,hs,hu,hk=>by
   have hn:ops.length<=i:=by have:=congrArg List.length hl;simp at this;omega
   have e:i=ops.length:=(by omega);subst e;exact ⟨qs,tr.reverse,⟨hos,λj o hsj ho=>hu j o hsj (q9.1 ho).1 ho⟩,hk.1,by rw [hs];exact hk.2,λ_ _=>rfl⟩
 |o::r,i,qs,tr,ts,m,hl,Xp,hin,ht,hs,hu,hk=>by
  have hi:i<ops.length:=by have:=congrArg List.length hl;simp at this;omega
  have hoi:ops[i]? =some o:=by have:=congrArg (·[0]?) hl;simpa using this
  have hr:ops.drop (i+1)=r:=by have:=congrArg List.tail hl;simpa using this
  have go:∀(q:Rec) (t:lN × lN),YA P ops o q t.1 ts m->(∀l,l∈q.new.map (·.1)->l∈t.2)->sD P ops r (mB o.dst q.x ts) (q.new++m) (t::tr) K→
   ∃qs' tr,Sm P sk ops os qs' tr ts0 m0/\mK ops tr=true/\K (dx os qs' (λ_=>true) ts0 m0 ops.length).1 (dx os qs' (λ_=>true) ts0 m0 ops.length).2/\∀j,j<i->qs' j=qs j:=by
   intro q t hya iu hk;have hq:∀j,j<i->qs j=(λk=>if k=i then q else qs k) j:=λj hj=>by simp;intro e;omega
   have hst:∀j,j<=i->dx os (λk=>if k=i then q else qs k) (λ_=>true) ts0 m0 j=dx os qs (λ_=>true) ts0 m0 j:=λj hj=>(HP j λk hk=>hq k (by omega)).symm;suffices hh:∃qs' tr,Sm P sk ops os qs' tr ts0 m0/\mK ops tr=true/\K (dx os qs' (λ_=>true) ts0 m0 ops.length).1 (dx os qs' (λ_=>true) ts0 m0 ops.length).2/\∀j,j<i+1->qs' j=(λk=>if k=i then q else qs k) j by obtain ⟨qs',tr',g1,g2,g3,g4⟩:=hh;exact ⟨qs',tr',g1,g2,g3,λj hj=>(g4 j (by omega)).trans (hq j hj).symm⟩
   refine x_ hos r (i+1) (λk=>if k=i then q else qs k) (t::tr) _ _ hr (by omega) hi (by simp [ht]) ?_ ?_ hk
   . simp only [dx,if_true,hst i (q17 _),hs,hos i o Xp hoi]
   intro j oj hsj hj hoj;rw [hst j (by omega)];rw [List.reverse_cons];by_cases e:j=i
   . subst e;rw [hoi] at hoj;injection hoj with hoj;subst hoj
     refine ⟨t,by rw [List.getElem?_append_right (by simp [ht])];simp [ht],?_,by simpa using iu⟩;rw [hs];simpa using hya
   obtain ⟨t',h1,h2,h3⟩:=hu j oj hsj (by omega) hoj;refine ⟨t',by rw [List.getElem?_append_left (by simp [ht];omega)];exact h1,?_,?_⟩
   . simpa [e] using h2
   simpa [e] using h3
  have run:cI ops o ts=some true->cA P (o.dst.getD 0) o.op ts m (λx m'=>sD P ops r (mB o.dst x ts) m' ((vW o.op ts,zw m' m)::tr) K)→
   ∃qs' tr,Sm P sk ops os qs' tr ts0 m0/\mK ops tr=true/\K (dx os qs' (λ_=>true) ts0 m0 ops.length).1 (dx os qs' (λ_=>true) ts0 m0 ops.length).2/\∀j,j<i->qs' j=qs j:=by
   intro hw hk;obtain ⟨x,new,h1,h2⟩:=OM P _ _ _ _ _ hk;refine go ⟨x,new⟩ (vW o.op ts,zw (new++m) m) (.inl ⟨hw,λ_ h=>h,λm' hm hm' k' hk'=>h2 m' (λl hl=>hm l ?_) (λl hl=>hm' l (mem_keys hl)) k' hk'⟩) (λl hl=>by rw [Sn];exact hl) h1;obtain ⟨y,hy,af,hv⟩:=hl;exact List.mem_flatMap.2 ⟨y,hy,q14.2 ⟨(l,af),hv,rfl⟩⟩
  cases hg:o.guard with
  |none=>
   simp only [sD,hg] at hk;exact run (by simp [cI,hg]) hk
  |some jw=>
   obtain ⟨j,want⟩:=jw;simp only [sD,hg] at hk;unfold gg at hk;split at hk
   . rename_i c hy;by_cases hc:c=want
     . subst hc;exact run (by simp [cI,hg,hy]) (hk.1 rfl)
     exact go ⟨.aX [],[]⟩ ([],[]) (.inr ⟨by simp [cI,hg,hy,hc],rfl,rfl⟩) (λl hl=>by simp at hl) (hk.2 hc)
   . rename_i hy;exact go ⟨.aX [],[]⟩ ([],[]) (.inr ⟨by simp [cI,hg,hy],rfl,rfl⟩) (λl hl=>by simp at hl) hk
   exact hk.elim
theorem aj.draw {P:Program} {N i:Nat} {ops:List Oper} {ts:Env} {m:Mem} {Q:di} {q:Pack (Code.region i ⟨ops⟩ true,Q)} (hm:P.follows .mixedOrders=true) (hok:(jL N ops&&dj N ops)=true)
 (h:sD P ops ops ts m [] (Q .normal)):aj P N (.region i ⟨ops⟩ true) ts m Q q:=by
 refine ⟨λB φ fp S a w hRS=> ?_⟩;simp only [Bool.and_eq_true] at hok;obtain ⟨qs,tr,hR,hB,hK,_⟩:=x_ (os:=λi=>(ops[i]?).getD default) (ts0:=ts) (m0:=m) (sk:=0) (λi o _ ho=>by simp [ho]) ops 0 (λ_=>⟨.undef,[]⟩) [] ts m rfl (q17 _) (Nat.zero_le _) rfl rfl (λi o _ hi=>absurd hi (q20 _)) h;refine wp_region_any hm ?_;refine BE (B:=B) (N:=N) hR hB hok.1 hok.2 hK (λa w hd=>hd) _ _ φ fp S a _ (by simp) ?_ (λi hi=>absurd hi (q20 _)) ?_ ?_
 . intro j o _ hd;have hd:(q2 (List.toArray ops).size false).getD j false=true:=hd;rw [getD_replicate_false] at hd;cases hd
 . exact q18 List.countP_le_length (by simp)
 have e:(λi=>(q2 (List.toArray ops).size false).getD i false)=λ_=>false:=funext λi=>getD_replicate_false _ _;have e2:=mJ (os:=λi=>(ops[i]?).getD default) (qs:=qs) (D:=λ_=>false) (ts:=ts) (m:=m) (j:=0) (λ_ _=>rfl) ops.length (Nat.zero_le _);show RS B N φ fp S (dx _ qs (λi=>(q2 (List.toArray ops).size false).getD i false) ts m ops.length).1 (dx _ qs (λi=>(q2 (List.toArray ops).size false).getD i false) ts m ops.length).2 a {w with drawn:=w.drawn+1};rw [e,e2];exact hRS.rH rfl ⟨rfl,rfl,rfl⟩
section
variable (P:Program) (d:Nat) (ts:Env) (m:Mem) (k:AV->Mem->Prop)
theorem ON (x:Operand):iK P d (.move x) ts m k=k (ev ts x) m:=rfl
theorem HQ (x:Operand):iK P d (.assign x) ts m k=k (ev ts x) m:=rfl
theorem OO (c a b:Operand):iK P d (.pick c a b) ts m k=qe (ev ts c) (ev ts a) (ev ts b) λv=>k v m:=rfl
theorem Lg (t:TypeId):iK P d (.alloc t) ts m k=eo (aK P t) λti=>CC d ti.zero m k:=rfl
theorem Sp (t:TypeId) (x:Operand):iK P d (.box t x) ts m k=CC d (ev ts x) m k:=rfl
theorem Lh (t:TypeId) (l:List (Nat × Operand)):iK P d (.build t ⟨l⟩) ts m k=eo (aK P t) λti=>V8 ti.kind (qI ti (l.map λp=>(p.1,ev ts p.2)) λv=>k v m):=rfl
theorem yb (t:TypeId) (n:Nat) (l:List (Nat × Operand)):iK P d (.buildSlice t n ⟨l⟩) ts m k=eo (aK P t) λtt=>xn tt.kind (eo (aK P tt.elem) λti=>gI ti d n (l.map λp=>(p.1,ev ts p.2)) m k):=rfl
theorem OP (t:TypeId) (x:Operand):iK P d (.load t x) ts m k=eo (aK P t) λti=>oz ti.agg ti.size (ev ts x) m k:=rfl
theorem Li (t:TypeId) (p y:Operand):iK P d (.store t p y) ts m k=eo (aK P t) λti=>fW ti.size (ev ts p) (ev ts y) m λm'=>k .undef m':=rfl
theorem CU (x:Operand):iK P d (.nilCheck x) ts m k=rZ m (ev ts x) λv=>k v m:=rfl
theorem Lj (op:BinOp) (t t2:TypeId) (x y:Operand):iK P d (.binOp op t x y t2) ts m k=eo (aK P t) λti=>gK P t op (ev ts x) (ev ts y) (λv=>k v m) (lH op ti.kind (ev ts x) (ev ts y) (UR y) m λv=>k v m):=rfl
theorem Sq (t:TypeId) (x:Operand):iK P d (.unOp .not t x) ts m k=zx (ev ts x) λv=>k v m:=rfl
theorem Sr (t:TypeId) (x:Operand):iK P d (.unOp .neg t x) ts m k=Cx (ev ts x) λv=>k v m:=rfl
theorem Fc (s t:TypeId) (x:Operand):iK P d (.convert s t x) ts m k=eo (aK P s) λsi=>eo (aK P t) λti=>kK P si ti d (ev ts x) m k:=rfl
theorem zF (t:TypeId) (l c:Operand):iK P d (.makeSlice t l c) ts m k=eo (aK P t) λtt=>xn tt.kind (eo (aK P tt.elem) λti=>rR ti d (ev ts l) (ev ts c) m k):=rfl
theorem Lk (t:TypeId) (x:Operand) (lo hi:Option Operand):iK P d (.slice t x lo hi none) ts m k=eo (aK P t) λtt=>ng P tt (ev ts x) (lo.map (ev ts)) (hi.map (ev ts)) m λv=>k v m:=rfl
theorem zG (t:TypeId) (x:Operand) (f:Nat):iK P d (.fieldAddr t x f) ts m k=eo (aK P t) λti=>te ti.fields[f]? λfd=>0<fd.2.1/\ib fd.1 m (ev ts x) λv=>k v m:=rfl
theorem Ll (t:TypeId) (x:Operand) (f:Nat):iK P d (.field t x f) ts m k=eo (aK P t) λti=>te ti.fields[f]? λfd=>nh fd.2.2 fd.2.1 fd.1 (ev ts x) λv=>k v m:=rfl
theorem zH (t:TypeId) (x i:Operand):iK P d (.indexAddr t x i) ts m k=eo (aK P t) λtt=>xn tt.kind (eo (aK P tt.elem) λti=>uY ti.sh m (ev ts x) (ev ts i) λv=>k v m):=rfl
theorem Lm (t:TypeId) (x i:Operand):iK P d (.index t x i) ts m k=eo (aK P t) λtt=>(match tt.kind with| .string=>True|_=>False)/\mZ (ev ts x) (ev ts i) λv=>k v m:=rfl
theorem Fe (x:Operand) (i:Nat):iK P d (.extract x i) ts m k=zz i (ev ts x) λv=>k v m:=rfl
theorem Ss (t:TypeId) (r:List TypeId) (x:Operand):iK P d (.call ⟨.builtin .len,⟨[x]⟩,⟨t::r⟩⟩) ts m k=eo (aK P t) λti=>mY ti.kind m (ev ts x) λv=>k v m:=rfl
theorem Su (tys:Array TypeId) (x y:Operand):iK P d (.call ⟨.builtin .max,⟨[x,y]⟩,tys⟩) ts m k=zy (ev ts x) (ev ts y) λv=>k v m:=rfl
theorem Sv (tys:Array TypeId) (x y:Operand):iK P d (.call ⟨.builtin .min,⟨[x,y]⟩,tys⟩) ts m k=mW (ev ts x) (ev ts y) λv=>k v m:=rfl
theorem HR (tys:List TypeId) (x y:Operand):iK P d (.call ⟨.builtin .append,⟨[x,y]⟩,⟨tys⟩⟩) ts m k=kJ P tys d (ev ts x) (ev ts y) m k:=rfl
theorem OQ (f:FuncId) (xs:lO) (tys:Array TypeId):iK P d (.call ⟨.value (.func f),⟨xs⟩,tys⟩) ts m k=nY P f d (xs.map (ev ts)) m k:=rfl
theorem Ln (t:Nat) (xs:lO) (tys:Array TypeId):iK P d (.call ⟨.value (.tmp t),⟨xs⟩,tys⟩) ts m k=ni P (look ts t) d (xs.map (ev ts)) m k:=rfl
theorem CV (f:FuncId) (l:lO):iK P d (.makeFunc (.func f) ⟨[]⟩ ⟨l⟩) ts m k=(([]:lO)=[]/\k (.cn f (l.map (ev ts))) m):=rfl
theorem Lo (x:Operand):cA P d (.move x) ts m k=k (ev ts x) m:=rfl
theorem Ff (x:Operand):cA P d (.assign x) ts m k=k (ev ts x) m:=rfl
theorem Lp (c a b:Operand):cA P d (.pick c a b) ts m k=qe (ev ts c) (ev ts a) (ev ts b) λv=>k v m:=rfl
theorem HS (t:TypeId):cA P d (.alloc t) ts m k=eo (aK P t) λti=>CC d ti.zero m k:=rfl
theorem HT (t:TypeId) (l:List (Nat × Operand)):cA P d (.build t ⟨l⟩) ts m k=eo (aK P t) λti=>V8 ti.kind (qI ti (l.map λp=>(p.1,ev ts p.2)) λv=>k v m):=rfl
theorem vX (t:TypeId) (n:Nat) (l:List (Nat × Operand)):cA P d (.buildSlice t n ⟨l⟩) ts m k=eo (aK P t) λtt=>xn tt.kind (eo (aK P tt.elem) λti=>gI ti d n (l.map λp=>(p.1,ev ts p.2)) m k):=rfl
theorem Lq (t:TypeId) (x:Operand):cA P d (.load t x) ts m k=eo (aK P t) λti=>ow ti.agg ti.size (ev ts x) m k:=rfl
theorem HU (t:TypeId) (p y:Operand):cA P d (.store t p y) ts m k=eo (aK P t) λti=>kH ti.size (ev ts p) (ev ts y) m λm'=>k .undef m':=rfl
theorem zI (x:Operand):cA P d (.nilCheck x) ts m k=rZ m (ev ts x) λv=>k v m:=rfl
theorem HV (op:BinOp) (t t2:TypeId) (x y:Operand):cA P d (.binOp op t x y t2) ts m k=eo (aK P t) λti=>gK P t op (ev ts x) (ev ts y) (λv=>k v m) (kF op ti.kind (ev ts x) (ev ts y) λv=>k v m):=rfl
theorem OR (t:TypeId) (x:Operand):cA P d (.unOp .not t x) ts m k=zx (ev ts x) λv=>k v m:=rfl
theorem CW (s t:TypeId) (x:Operand):cA P d (.convert s t x) ts m k=eo (aK P s) λsi=>eo (aK P t) λti=>kK P si ti d (ev ts x) m k:=rfl
theorem HW (t:TypeId) (x:Operand) (lo hi:Option Operand):cA P d (.slice t x lo hi none) ts m k=eo (aK P t) λtt=>ng P tt (ev ts x) (lo.map (ev ts)) (hi.map (ev ts)) m λv=>k v m:=rfl
theorem yd (t:TypeId) (x:Operand) (f:Nat):cA P d (.fieldAddr t x f) ts m k=eo (aK P t) λti=>te ti.fields[f]? λfd=>0<fd.2.1/\ib fd.1 m (ev ts x) λv=>k v m:=rfl
theorem ye (t:TypeId) (x i:Operand):cA P d (.indexAddr t x i) ts m k=eo (aK P t) λtt=>xn tt.kind (eo (aK P tt.elem) λti=>oK ti.sh m (ev ts x) (ev ts i) λv=>k v m):=rfl
theorem CX (x:Operand) (i:Nat):cA P d (.extract x i) ts m k=zz i (ev ts x) λv=>k v m:=rfl
theorem OS (t:TypeId) (r:List TypeId) (x:Operand):cA P d (.call ⟨.builtin .len,⟨[x]⟩,⟨t::r⟩⟩) ts m k=eo (aK P t) λti=>mY ti.kind m (ev ts x) λv=>k v m:=rfl
theorem OT (tys:Array TypeId) (x y:Operand):cA P d (.call ⟨.builtin .min,⟨[x,y]⟩,tys⟩) ts m k=mW (ev ts x) (ev ts y) λv=>k v m:=rfl
theorem Fg (tys:List TypeId) (x y:Operand):cA P d (.call ⟨.builtin .append,⟨[x,y]⟩,⟨tys⟩⟩) ts m k=kJ P tys d (ev ts x) (ev ts y) m k:=rfl
theorem Lr (f:FuncId) (xs:lO) (tys:Array TypeId):cA P d (.call ⟨.value (.func f),⟨xs⟩,tys⟩) ts m k=nr P f d (xs.map (ev ts)) m k:=rfl
theorem zJ (f:FuncId) (l:lO):cA P d (.makeFunc (.func f) ⟨[]⟩ ⟨l⟩) ts m k=(([]:lO)=[]/\k (.cn f (l.map (ev ts))) m):=rfl
def Br (c:Bool) (a b:Prop) (_:Pack (a,b)):Prop:=(c=true->a)/\(c=false->b)
theorem Sw (a b:Prop) {q:Pack (a,b)}:Br true a b q=a:=by simp [Br]
theorem OU (a b:Prop) {q:Pack (a,b)}:Br false a b q=b:=by simp [Br]
theorem Br.intro {c:Bool} {a b:Prop} {q:Pack (a,b)} (ha:c=true->a) (hb:c=false->b):Br c a b q:=⟨ha,hb⟩
theorem Sx (c:Bool) (a b:Prop):Ul (.val (.bool c)) a b=Br c a b ⟨⟩:=rfl
theorem Ls (c:Bool) (a b:AV) (k:AV->Prop):qe (.val (.bool c)) a b k=Br c (k a) (k b) ⟨⟩:=rfl
theorem Lt (c:Bool) (a b:Prop):gg true (.val (.bool c)) a b=Br c a b ⟨⟩:=by simp [gg,Br]
theorem Lu (c:Bool) (a b:Prop):gg false (.val (.bool c)) a b=Br c b a ⟨⟩:=by simp only [NS,Br];exact propext and_comm
variable (ops:List Oper) (tr:List (lN × lN)) (K:St)
def qP (r:List Oper) (_:Pack (P,ops,r,d,ts,K)) (x:AV) (m':Mem):Prop:=sL P ops r ((d,x)::ts) m' K
def YX (r:List Oper) (_:Pack (P,ops,r,ts,K)) (_:AV) (m':Mem):Prop:=sL P ops r ts m' K
def HX (op:Op) (r:List Oper) (_:Pack (P,ops,r,d,op,ts,m,tr,K)) (x:AV) (m':Mem):Prop:=sD P ops r ((d,x)::ts) m' ((vW op ts,zw m' m)::tr) K
def WA (op:Op) (r:List Oper) (_:Pack (P,ops,r,op,ts,m,tr,K)) (_:AV) (m':Mem):Prop:=sD P ops r ts m' ((vW op ts,zw m' m)::tr) K
theorem Sy:sL P ops [] ts m K=K ts m:=rfl
theorem Lv (op:Op) (ty:TypeId) (p:String) (e:Array Edge) (r:List Oper):sL P ops (⟨some d,op,ty,p,e,none⟩::r) ts m K=iK P d op ts m (qP P d ts ops K r ⟨⟩):=rfl
theorem Lw (op:Op) (ty:TypeId) (p:String) (e:Array Edge) (r:List Oper):sL P ops (⟨none,op,ty,p,e,none⟩::r) ts m K=iK P 0 op ts m (YX P ts ops K r ⟨⟩):=rfl
theorem Lx (op:Op) (ty:TypeId) (p:String) (e:Array Edge) (j:Nat) (w:Bool) (r:List Oper):
 sL P ops (⟨some d,op,ty,p,e,some (j,w)⟩::r) ts m K=gg w (look ts (jK ops j)) (iK P d op ts m (qP P d ts ops K r ⟨⟩)) (sL P ops r ((d,.aX [])::ts) m K):=rfl
theorem U8:sD P ops [] ts m tr K=(mK ops tr.reverse=true/\K ts m):=rfl
theorem OV (op:Op) (ty:TypeId) (p:String) (e:Array Edge) (r:List Oper):
 sD P ops (⟨some d,op,ty,p,e,none⟩::r) ts m tr K=cA P d op ts m (HX P d ts m ops tr K op r ⟨⟩):=rfl
theorem OW (op:Op) (ty:TypeId) (p:String) (e:Array Edge) (r:List Oper):
 sD P ops (⟨none,op,ty,p,e,none⟩::r) ts m tr K=cA P 0 op ts m (WA P ts m ops tr K op r ⟨⟩):=rfl
theorem OX (op:Op) (ty:TypeId) (p:String) (e:Array Edge) (j:Nat) (w:Bool) (r:List Oper):
 sD P ops (⟨some d,op,ty,p,e,some (j,w)⟩::r) ts m tr K=gg w (look ts (jK ops j)) (cA P d op ts m (HX P d ts m ops tr K op r ⟨⟩))
  (sD P ops r ((d,.aX [])::ts) m (([],[])::tr) K):=rfl
theorem HY (g:Nat × bc) (m':Mem) (r:List Oper) {q:Pack (P,ops,r,ts,K)}:YX P ts ops K r q (.undef) (g::m')=sL P ops r ts (g::m') K:=rfl
theorem Fh (g:Nat × bc) (m':Mem) (r:List Oper) (op:Op) {q:Pack (P,ops,r,op,ts,m,tr,K)}:WA P ts m ops tr K op r q (.undef) (g::m')=sD P ops r ts (g::m') ((vW op ts,zw (g::m') m)::tr) K:=rfl
theorem Ly (v:Value) (r:List Oper) {q:Pack (P,ops,r,d,ts,K)}:qP P d ts ops K r q (.val v) []=sL P ops r ((d,.val v)::ts) [] K:=rfl
theorem OY (v:Value) (r:List Oper) (op:Op) {q:Pack (P,ops,r,d,op,ts,m,tr,K)}:HX P d ts m ops tr K op r q (.val v) []=sD P ops r ((d,.val v)::ts) [] ((vW op ts,zw [] m)::tr) K:=rfl
theorem Lz (v:Value) (g:Nat × bc) (m':Mem) (r:List Oper) {q:Pack (P,ops,r,d,ts,K)}:qP P d ts ops K r q (.val v) (g::m')=sL P ops r ((d,.val v)::ts) (g::m') K:=rfl
theorem OZ (v:Value) (g:Nat × bc) (m':Mem) (r:List Oper) (op:Op) {q:Pack (P,ops,r,d,op,ts,m,tr,K)}:HX P d ts m ops tr K op r q (.val v) (g::m')=sD P ops r ((d,.val v)::ts) (g::m') ((vW op ts,zw (g::m') m)::tr) K:=rfl
theorem LB (sh:Sh) (xs:lA) (r:List Oper) {q:Pack (P,ops,r,d,ts,K)}:qP P d ts ops K r q (.arr sh xs) []=sL P ops r ((d,.arr sh xs)::ts) [] K:=rfl
theorem O0 (sh:Sh) (xs:lA) (r:List Oper) (op:Op) {q:Pack (P,ops,r,d,op,ts,m,tr,K)}:HX P d ts m ops tr K op r q (.arr sh xs) []=sD P ops r ((d,.arr sh xs)::ts) [] ((vW op ts,zw [] m)::tr) K:=rfl
theorem LC (sh:Sh) (xs:lA) (g:Nat × bc) (m':Mem) (r:List Oper) {q:Pack (P,ops,r,d,ts,K)}:qP P d ts ops K r q (.arr sh xs) (g::m')=sL P ops r ((d,.arr sh xs)::ts) (g::m') K:=rfl
theorem O1 (sh:Sh) (xs:lA) (g:Nat × bc) (m':Mem) (r:List Oper) (op:Op) {q:Pack (P,ops,r,d,op,ts,m,tr,K)}:HX P d ts m ops tr K op r q (.arr sh xs) (g::m')=sD P ops r ((d,.arr sh xs)::ts) (g::m') ((vW op ts,zw (g::m') m)::tr) K:=rfl
theorem LD (xs:lA) (r:List Oper) {q:Pack (P,ops,r,d,ts,K)}:qP P d ts ops K r q (.agg xs) []=sL P ops r ((d,.agg xs)::ts) [] K:=rfl
theorem O3 (xs:lA) (r:List Oper) (op:Op) {q:Pack (P,ops,r,d,op,ts,m,tr,K)}:HX P d ts m ops tr K op r q (.agg xs) []=sD P ops r ((d,.agg xs)::ts) [] ((vW op ts,zw [] m)::tr) K:=rfl
theorem LF (xs:lA) (g:Nat × bc) (m':Mem) (r:List Oper) {q:Pack (P,ops,r,d,ts,K)}:qP P d ts ops K r q (.agg xs) (g::m')=sL P ops r ((d,.agg xs)::ts) (g::m') K:=rfl
theorem O4 (xs:lA) (g:Nat × bc) (m':Mem) (r:List Oper) (op:Op) {q:Pack (P,ops,r,d,op,ts,m,tr,K)}:HX P d ts m ops tr K op r q (.agg xs) (g::m')=sD P ops r ((d,.agg xs)::ts) (g::m') ((vW op ts,zw (g::m') m)::tr) K:=rfl
theorem LG (xs:lA) (r:List Oper) {q:Pack (P,ops,r,d,ts,K)}:qP P d ts ops K r q (.aX xs) []=sL P ops r ((d,.aX xs)::ts) [] K:=rfl
theorem O5 (xs:lA) (r:List Oper) (op:Op) {q:Pack (P,ops,r,d,op,ts,m,tr,K)}:HX P d ts m ops tr K op r q (.aX xs) []=sD P ops r ((d,.aX xs)::ts) [] ((vW op ts,zw [] m)::tr) K:=rfl
theorem LH (xs:lA) (g:Nat × bc) (m':Mem) (r:List Oper) {q:Pack (P,ops,r,d,ts,K)}:qP P d ts ops K r q (.aX xs) (g::m')=sL P ops r ((d,.aX xs)::ts) (g::m') K:=rfl
theorem O6 (xs:lA) (g:Nat × bc) (m':Mem) (r:List Oper) (op:Op) {q:Pack (P,ops,r,d,op,ts,m,tr,K)}:HX P d ts m ops tr K op r q (.aX xs) (g::m')=sD P ops r ((d,.aX xs)::ts) (g::m') ((vW op ts,zw (g::m') m)::tr) K:=rfl
theorem LI (l v i n:Nat) (g:Nat × bc) (m':Mem) (r:List Oper) {q:Pack (P,ops,r,d,ts,K)}:qP P d ts ops K r q (.ref l v i n) (g::m')=sL P ops r ((d,.ref l v i n)::ts) (g::m') K:=rfl
theorem O7 (l v i n:Nat) (g:Nat × bc) (m':Mem) (r:List Oper) (op:Op) {q:Pack (P,ops,r,d,op,ts,m,tr,K)}:HX P d ts m ops tr K op r q (.ref l v i n) (g::m')=sD P ops r ((d,.ref l v i n)::ts) (g::m') ((vW op ts,zw (g::m') m)::tr) K:=rfl
theorem LJ (l v i j:Nat) (g:Nat × bc) (m':Mem) (r:List Oper) {q:Pack (P,ops,r,d,ts,K)}:qP P d ts ops K r q (.ptr l v i j) (g::m')=sL P ops r ((d,.ptr l v i j)::ts) (g::m') K:=rfl
theorem O8 (l v i j:Nat) (g:Nat × bc) (m':Mem) (r:List Oper) (op:Op) {q:Pack (P,ops,r,d,op,ts,m,tr,K)}:HX P d ts m ops tr K op r q (.ptr l v i j) (g::m')=sD P ops r ((d,.ptr l v i j)::ts) (g::m') ((vW op ts,zw (g::m') m)::tr) K:=rfl
theorem HZ (sh:Sh) (xs:lA) (i j:Nat) (r:List Oper) {q:Pack (P,ops,r,d,ts,K)}:qP P d ts ops K r q (.bo sh xs i j) []=sL P ops r ((d,.bo sh xs i j)::ts) [] K:=rfl
theorem LK (sh:Sh) (xs:lA) (i j:Nat) (r:List Oper) (op:Op) {q:Pack (P,ops,r,d,op,ts,m,tr,K)}:HX P d ts m ops tr K op r q (.bo sh xs i j) []=sD P ops r ((d,.bo sh xs i j)::ts) [] ((vW op ts,zw [] m)::tr) K:=rfl
theorem H0 (sh:Sh) (xs:lA) (i j:Nat) (g:Nat × bc) (m':Mem) (r:List Oper) {q:Pack (P,ops,r,d,ts,K)}:qP P d ts ops K r q (.bo sh xs i j) (g::m')=sL P ops r ((d,.bo sh xs i j)::ts) (g::m') K:=rfl
theorem LM (sh:Sh) (xs:lA) (i j:Nat) (g:Nat × bc) (m':Mem) (r:List Oper) (op:Op) {q:Pack (P,ops,r,d,op,ts,m,tr,K)}:HX P d ts m ops tr K op r q (.bo sh xs i j) (g::m')=sD P ops r ((d,.bo sh xs i j)::ts) (g::m') ((vW op ts,zw (g::m') m)::tr) K:=rfl
theorem LN (f:FuncId) (xs:lA) (g:Nat × bc) (m':Mem) (r:List Oper) {q:Pack (P,ops,r,d,ts,K)}:qP P d ts ops K r q (.cn f xs) (g::m')=sL P ops r ((d,.cn f xs)::ts) (g::m') K:=rfl
theorem O9 (f:FuncId) (xs:lA) (g:Nat × bc) (m':Mem) (r:List Oper) (op:Op) {q:Pack (P,ops,r,d,op,ts,m,tr,K)}:HX P d ts m ops tr K op r q (.cn f xs) (g::m')=sD P ops r ((d,.cn f xs)::ts) (g::m') ((vW op ts,zw (g::m') m)::tr) K:=rfl
end
attribute [go_sem ↓] RH KA RI UU RJ NV RM RN UW Sy Lv Lw
attribute [go_sem ↓] Lx ON HQ OO Lg Sp Lh yb OP Li CU Lj
attribute [go_sem ↓] Sq Sr Fc zF Lk zG Ll zH Lm Fe Ss
attribute [go_sem ↓] Su Sv HR OQ Ln CV Lo Ff Lp HS
attribute [go_sem ↓] HT vX Lq HU zI HV OR CW HW
attribute [go_sem ↓] yd ye CX OS OT Fg zJ
attribute [go_sem ↓] Lr U8 OV OW OX
attribute [go_sem] HY Fh Ly OY
attribute [go_sem] Lz OZ
attribute [go_sem] LB O0 LC O1 LD O3
attribute [go_sem] LF O4 LG O5 LH O6
attribute [go_sem] LI O7
attribute [go_sem] LJ O8 HZ LK H0 LM
attribute [go_sem] LN O9
attribute [go_sem] Sw OU Sx Ls Lt Lu
attribute [go_sem ↓] look_nil cM s_ aw TI.Wg Q_ Nk G3 Ki DR DS Cw
attribute [go_sem ↓] Uj Nl wx td zY DT zZ DU DV
attribute [go_sem ↓] DW DX Un Uo Up Uq Ur Us Ut Uu Uv Uw
attribute [go_sem ↓] Ux Nn No Np Jg Jh z6 Ji Jj
attribute [go_sem ↓] Jk z7 wy z8 z_ G4 G5 G6
attribute [go_sem ↓] DY mX rI wz uu wA wB Aa wC
attribute [go_sem ↓] wD uv wE wF uw Ab Ac wG
attribute [go_sem ↓] ux DZ D0 D3 D4 Ad Ae wH wI wJ
attribute [go_sem ↓] wK wL wM D5 tf D6 uy rJ
attribute [go_sem ↓] wN uz uA uB uC uE uF
attribute [go_sem ↓] wP D_
attribute [go_sem ↓] Ah wQ rN uH oA uI Ai Jn
attribute [go_sem ↓] Kq G_ rO qg wT rP qh
attribute [go_sem ↓] uJ uK uL rQ uM
attribute [go_sem ↓] uN Nv Nw Nx Eb Al Ec Ed
attribute [go_sem ↓] Am An Ao wV Aq Ar uP uQ
attribute [go_sem ↓] As Au wW uR Av Aw Ej wX wY wZ
attribute [go_sem ↓] Ay w9 Az w_ uS oH AD xd xe
attribute [go_sem ↓] xf rV qi AE AF AG AH AI AJ xg uT
attribute [go_sem ↓] AK AL AM xh AN AO AP xi uU Eo
attribute [go_sem ↓] Ep Er Es AQ AR AS
attribute [go_sem ↓] AT AU xk uW AW AX AY AZ A0 xl
attribute [go_sem ↓] xm uX nZ A2 xo EA A3 EB EC ED A4
attribute [go_sem ↓] xp EE A5 A6
attribute [go_sem ↓] A7 Jt xq A8 A9 Kv Ru Ju Jv
attribute [go_sem ↓] A_ A' uZ Ba xr r6 xu oL nj oM
attribute [go_sem ↓] xw Rx EG r7 xy xz r8 xA xB
attribute [go_sem ↓] EL Kz Hg Hh Hi RF NT Hj RG NU KB
attribute [go_sem ↓] KD Hk NX NY NZ
attribute [go_sem ↓] EN N0 N1 KE KF KG KH KI KJ
attribute [go_sem ↓] N2 KK N3 N4 N5 N6 N7 N8 xG
attribute [go_sem ↓] N9 N_ Oa Ob Oc KL Od Oe KM Of
attribute [go_sem ↓] KO Hn Ho KP Og KQ RO u9 xN sc sf
attribute [go_sem ↓] qo Bc Bd Be xO vd Bf Bg Bh xP
attribute [go_sem ↓] ve KT KU tu RQ KV Hq RT Oi mC ET
attribute [go_sem ↓] EU EV Bl Oj ku EW
attribute [go_sem ↓] Bm xR Bo Bp Bq Bt Bu Bv xS KX
attribute [go_sem ↓] Hs Bx By EX pE kM Bz lM E5 Oy KZ Hy
attribute [go_sem ↓] K0 Hz Oz K1 OA K3 OB K4 K5 HA K6 HB
attribute [go_sem ↓] K7 HC K8 HE Sg OC OD K9 UZ U0
attribute [go_sem ↓] U1 RY Om RZ R0 R3 On Hu R4
attribute [go_sem ↓] Oo KY R5 R6 R7 R8 Oq Hv R9 R_ Sa
attribute [go_sem ↓] BA
attribute [go_sem] wx td zY DT zZ DU DV DW DX Nn No
attribute [go_sem] Np Jg Jh z6 Ji Jj Jk z7 wy z8 z_
attribute [go_sem] rI wz uu wA wB Aa wC
attribute [go_sem] wD uv wE wF uw Ab Ac wG
attribute [go_sem] ux DZ D0 D3 D4 Ad Ae wH wI wJ
attribute [go_sem] wK wL wM D6 uy rJ wN
attribute [go_sem] uz uA uB uC uE uF
attribute [go_sem] wP D_ Ah wQ
attribute [go_sem] rN uH oA uI Ai Jn rO
attribute [go_sem] qg rP qh uJ uK uL rQ
attribute [go_sem] uM uN Eb Al Ec Ed
attribute [go_sem] Am An Ao wV Aq Ar uP uQ
attribute [go_sem] As Au wW uR Av Aw Ej wX wY wZ
attribute [go_sem] Ay w9 Az w_ uS oH Ek Em
attribute [go_sem] ND NF NG AA xb AD xd xe xf rV qi
attribute [go_sem] AE AF AG AH AI AJ xg uT AK AL
attribute [go_sem] AM xh AN AO AP xi uU Eo Ep Er
attribute [go_sem] Es AQ AR AS AT AU xk uW
attribute [go_sem] AW AX AY AZ A0 xl xm uX nZ A2 xo
attribute [go_sem] EA A3 EB EC ED A4 xp EE
attribute [go_sem] A5 A6 A7 Jt xq A8
attribute [go_sem] A9 Ju Jv A_ A' uZ Ba xr r6
attribute [go_sem] xu oL nj oM xw EG r7 xy xz
attribute [go_sem] r8 xA xB EL u9 xN sc sf qo Bc
attribute [go_sem] Bd Be xO vd Bf Bg Bh xP ve ET
attribute [go_sem] EU EV Bl ku EW Bm xR
attribute [go_sem] Bo Bp Bq Bt Bu Bv xS Bx By EX
attribute [go_sem] pE BA
attribute [go_sem] List.getElem?_cons_zero List.getElem?_cons_succ List.getElem?_nil List.map_cons List.map_nil List.length_cons List.length_nil List.drop_zero List.drop_succ_cons List.take_zero List.take_succ_cons List.take_nil List.drop_nil List.set_cons_zero List.set_cons_succ q21 Nat.add_zero
attribute [go_sem] List.length_map List.getElem?_map Option.map_some Bool.true_and Bool.false_and
attribute [go_sem] Wi List.reverse_cons List.reverse_nil q15 List.cons_append Bool.true_eq_false q3 false_implies implies_true and_true true_and forall_const true_implies
attribute [go_sem ↓] reduceIte
attribute [go_sem] Nat.reduceEqDiff Nat.reduceLT Nat.reduceAdd Nat.reduceMul Nat.reduceLeDiff Int.reduceToNat
attribute [go_sem] q17 Int.natCast_zero Int.toNat_natCast
def pick (L:lN) (ts:Env):Env:=L.map λt=>(t,look ts t)
theorem oU (ts:Env):pick [] ts=[]:=rfl
theorem tB (t:Nat) (L:lN) (ts:Env):pick (t::L) ts=(t,look ts t)::pick L ts:=rfl
def V':lN->Nat->Bool
 | [],_=>false
 |d::D,l=>l==d||(l / 1000==d+1||V' D l)
theorem sv (l:Nat):V' [] l=false:=rfl
theorem yf (d:Nat) (D:lN) (l:Nat):V' (d::D) l=(l==d||(l / 1000==d+1||V' D l)):=rfl
def Wa:lN->Nat->Bool
 | [],_=>false
 |d::D,l=>l==d||Wa D l
theorem sw (l:Nat):Wa [] l=false:=rfl
theorem oV (d:Nat) (D:lN) (l:Nat):Wa (d::D) l=(l==d||Wa D l):=rfl
def iC (D E:lN):Mem->Mem
 | []=>[]
 |(l,b)::r=>if (V' D l||Wa E l)=true then iC D E r else (l,b)::iC D (l::E) r
theorem mL (D E:lN):iC D E []=[]:=rfl
theorem kP (D E:lN) (l:Nat) (b:bc) (r:Mem):iC D E ((l,b)::r)=if (V' D l||Wa E l)=true then iC D E r else (l,b)::iC D (l::E) r:=rfl
theorem H2 (b:Bool):(true||b)=true:=rfl
theorem yg (b:Bool):(false||b)=b:=rfl
section
variable {P:Program} {N:Nat} {ts:Env} {m:Mem}
theorem aj.up {body:Code} (L D E:lN) (n:Nat) (I:nP) (up:Nat->Env) (um:Nat->Mem) {Q:di} {q:Pack (Code.loop body,Q)} (h0:I 0)
 (hr:sa ts m (up 0++pick L ts) (um 0++iC D E m)) (hok:codeOk N body=true)
 (step:∀i,i<n->I i->vc P N body (up i++pick L ts) (um i++iC D E m) (zC Q λts' m'=>I (i+1)/\sa ts' m' (up (i+1)++pick L ts) (um (i+1)++iC D E m)))
 (stop:I n->vc P N body (up n++pick L ts) (um n++iC D E m) (zC Q λ_ _=>False)):aj P N (.loop body) ts m Q q:=
 aj.upto n I (λi=>(up i++pick L ts,um i++iC D E m)) h0 hr hok step stop
theorem aj.lp {body:Code} {ι:Type} (L D E:lN) (I:ι->Prop) (up:ι->Env) (um:ι->Mem) (μ:ι->Nat) {Q:di} {q:Pack (Code.loop body,Q)} (x0:ι) (h0:I x0)
 (hr:sa ts m (up x0++pick L ts) (um x0++iC D E m)) (hok:codeOk N body=true)
 (step:∀x,I x->vc P N body (up x++pick L ts) (um x++iC D E m) (zC Q λts' m'=>∃y,I y/\μ y<μ x/\sa ts' m' (up y++pick L ts) (um y++iC D E m))):aj P N (.loop body) ts m Q q:=
 aj.loop I (λi=>(up i++pick L ts,um i++iC D E m)) μ x0 h0 hr hok step
end
attribute [go_sem] Wk JC JD pF pH pI tx JE Ou CQ E2 Sb oR Sc Sd Ov Se E3 Sf E4
attribute [go_sem] Nat.reduceLT true_or or_true or_false false_or oU tB sv yf sw oV mL kP H2 yg Nat.reduceBEq Nat.reduceDiv beq_self_eq_true q3
theorem cz (a:Nat × AV) (x y:Env):a::x++y=a::(x++y):=rfl
theorem dz (x:Env):[]++x=x:=rfl
theorem ez (a:Nat × bc) (x y:Mem):a::x++y=a::(x++y):=rfl
theorem fz (x:Mem):[]++x=x:=rfl
theorem bz (a:Nat):(a==a)=true:=beq_self_eq_true a
theorem ai {a b:Prop} (x:a) (y:b):a/\b:=⟨x,y⟩
theorem pz:type_of%(And.intro @oU (And.intro @tB (And.intro @look_nil (And.intro @cM (And.intro @mL (And.intro @kP (And.intro @sv (And.intro @yf (And.intro @sw (And.intro @oV (And.intro @yg (And.intro @H2 (And.intro @bz (And.intro @Bool.or_false (And.intro @Bool.false_eq_true (And.intro @cz (And.intro @dz (And.intro @ez (@fz))))))))))))))))))):=And.intro @oU (And.intro @tB (And.intro @look_nil (And.intro @cM (And.intro @mL (And.intro @kP (And.intro @sv (And.intro @yf (And.intro @sw (And.intro @oV (And.intro @yg (And.intro @H2 (And.intro @bz (And.intro @Bool.or_false (And.intro @Bool.false_eq_true (And.intro @cz (And.intro @dz (And.intro @ez (@fz))))))))))))))))))
open Go.RowKit (Below)
open Go.ChangeShapes Go.WideShapes Go.ChangeAt Go.Deep
theorem Grown.below {w w':World} (h:Grown w w'):Below w.heap.size w w':=⟨h.out.os,h.out.tape,h.out.output,h.size,h.same⟩
def pO (w:World) (xs:lA) (cs:lV):Prop:=cs.length=xs.length/\∀i (h:i<xs.length),leaf xs[i]/\Rd w (ov w) xs[i] (cs.getD i uD)
def O_ (P:Program) (t:TypeId) {α:Type} (ok:α->Prop) (f:α->lA):Prop:=
 ∀(H:Type) (enc:TypeId × Value->H) (w:World) (base:Nat) (held:Bool) (fuel:Nat) (cs:lV) (x:DataW H × List MemPlace),
  DataW.trod enc P w base (λ_=>true) held fuel t cs=some x->∃a,ok a/\pO w (f a) cs
theorem pO.one {w:World} {x:AV} {v:Value} (hl:leaf x) (h:Rd w (ov w) x v):pO w [x] [v]:=⟨rfl,λi hi=>by
 have:i=0:=by simpa using hi
 subst this;exact ⟨hl,h⟩⟩
theorem O_.u8 {P:Program} {t:TypeId} (ht:P.underlying t=some (.int .u8)):O_ P t (λ_=>True) (λn:UInt8=>[.val (.int .u8 n.toNat)]):=λH enc w base held fuel cs x h=>by
 obtain ⟨n,rfl,_,hw⟩:=DataW.trod_int ht h;have hb:=bounds_u8 hw;refine ⟨UInt8.ofNat n.toNat,trivial,.one trivial ?_⟩;have:((UInt8.ofNat n.toNat).toNat:Int)=n:=by simp;omega
 rw [this];exact .val _ rfl
theorem JJ {α:Type} (g:Nat->Option α):∀(len:Nat),(∀i,i<len->∃b,g i=some b)->∃xs:List α,xs.length=len/\∀i (hi:i<xs.length),g i=some xs[i]
 |0,_=>⟨[],rfl,λi hi=>absurd hi (q20 _)⟩
 |k+1,hg=>by
  obtain ⟨xs,h1,h2⟩:=JJ g k λi hi=>hg i (by omega);obtain ⟨b,hb⟩:=hg k (by omega);refine ⟨xs++[b],by simp [h1],λi hi=> ?_⟩;by_cases hik:i<xs.length
  . rw [List.getElem_append_left hik];exact h2 i hik
  have:i=k:=by simp at hi;omega
  subst this;rw [List.getElem_append_right (by omega)];simp [h1,hb]
theorem BF (a:Addr) (k:Nat):(a.add k).block=a.block:=by unfold Addr.add;split<;>rfl
theorem JK (a:Addr) (k:Nat):(a.add k).off=a.off+k:=by
 unfold Addr.add;split
 . rename_i h;rw [h];rfl
 rfl
theorem Fi {w:World} {a:Addr} {v:Value} (h:w.cell? a=some v):∃cs e fr,w.heap[a.block]? =some (.cells cs e fr)/\cs[a.off]? =some v:=by
 unfold World.cell? at h;split at h
 . split at h
   . cases h
   exact ⟨_,_,_,‹_›,h⟩
 cases h
def yh (ag:Bool) (xs:lA):AV:=if ag then .agg xs else xs.getD 0 .undef
theorem O_.slice {P:Program} {t e:TypeId} {α:Type} {ok:α->Prop} {f:α->lA} (ag:Bool) (n:Nat) (ht:P.underlying t=some (.slice e)) (hn:P.cellsOf e=n) (h0:0<n) (hag:ag=false->n=1)
 (hlen:∀a,(f a).length=n) (hd:O_ P e ok f):O_ P t (λxs:List α=>xs.length<=maxLen/\∀a∈xs,ok a) (λxs=>[.arr ⟨n,ag⟩ (xs.map λa=>yh ag (f a))]):=λH enc w base held fuel cs x h=>by
 rcases open_slice ht h with ⟨rfl,_⟩|⟨a,len,cap,m,n',D,Pl,rfl,hb,hl,hm,hmm,_,hel⟩
 . exact ⟨[],⟨Nat.zero_le _,by simp⟩,.one trivial (.nil _ _)⟩
 simp only [if_true] at hmm;rw [hn,hmm] at hel;clear hmm;by_cases hc:cap=0
 . subst hc;have:len=0:=(by omega);subst this;exact ⟨[],⟨Nat.zero_le _,by simp⟩,.one trivial (.nil _ _)⟩
 ·
  have cellAt:∀i,i<cap->∀j,j<n->∃v,w.cell? (a.add (i*n+j))=some v:=by intro i hi j hj;obtain ⟨cs',h1,_⟩:=hel i hi;obtain ⟨_,h2,h3⟩:=World.cells?_some h1;have:=h3 j hj;rw [add_add] at this;exact ⟨cs'[j]'(by omega),by rw [this];exact q7 (by omega)⟩
  obtain ⟨v00,h00⟩:=cellAt 0 (by omega) 0 h0;have hsp:a.spot=none:=by simpa [Addr.add] using World.cell?_spot h00
  obtain ⟨bcs,be,bfr,aD,T8⟩:=Fi h00;have aD:w.heap[a.block]? =some (.cells bcs be bfr):=by simpa [BF] using aD
  have T8:bcs[a.off]? =some v00:=by simpa [JK] using T8
  have cells:∀i,i<cap->∀j,j<n->∀v,w.cell? (a.add (i*n+j))=some v->bcs[a.off+(i*n+j)]? =some v:=by intro i hi j hj v hv;obtain ⟨cs2,e2,fr2,g1,g2⟩:=Fi hv;have g1:w.heap[a.block]? =some (.cells cs2 e2 fr2):=(by simpa [BF] using g1);rw [aD] at g1;cases g1;simpa [JK] using g2
  have size:∀i,i<cap->a.off+(i+1)*n<=bcs.size:=by intro i hi;obtain ⟨v,hv⟩:=cellAt i hi (n-1) (by omega);have:=cells i hi (n-1) (by omega) v hv;have:=(q1.1 this).1;rw [Nat.add_mul];omega
  obtain ⟨g,hg⟩:∃g:Nat->Option α,∀i,i<len->∃b,g i=some b/\ok b/\∃cs',w.cells? base (a.add (i*n)) n=some cs'/\pO w (f b) cs':=by refine choose_lt (p:=λi (o:Option α)=>∃b,o=some b/\ok b/\∃cs',w.cells? base (a.add (i*n)) n=some cs'/\pO w (f b) cs') λi hi=> ?_;obtain ⟨cs',h1,h2⟩:=hel i (by omega);obtain ⟨b,h3,h4⟩:=hd H enc w base held n' cs' _ h2;exact ⟨some b,b,rfl,h3,cs',h1,h4⟩
  have hxs:∃xs:List α,xs.length=len/\∀i (hi:i<xs.length),g i=some xs[i]:=by exact JJ g len λi hi=>by obtain ⟨b,hb,_⟩:=hg i hi;exact ⟨b,hb⟩
  obtain ⟨xs,hxl,hxs⟩:=hxs;have VX:∀i (hi:i<xs.length),ok xs[i]/\∃cs',w.cells? base (a.add (i*n)) n=some cs'/\pO w (f xs[i]) cs':=by intro i hi;obtain ⟨b,h1,h2,h3⟩:=hg i (by omega);rw [hxs i hi] at h1;cases h1;exact ⟨h2,h3⟩
  refine ⟨xs,⟨by omega,λb hb=> ?_⟩,.one trivial ?_⟩
  . obtain ⟨i,hi,rfl⟩:=q10 hb;exact (VX i hi).1
  have ea:a=⟨a.block,a.off,none⟩:=by cases a;simp at hsp;subst hsp;rfl
  have T9:(xs.map λb=>yh ag (f b)).length=len:=by simp [hxl]
  rw [ea,←T9];refine .arr ⟨n,ag⟩ _ a.block a.off cap bcs be bfr (q1.1 aD).1 aD (by omega) ?_ ?_ ?_
  . rw [T9];show a.off+len*n<=bcs.size;by_cases h0l:len=0
    . subst h0l;have:=size 0 (by omega);omega
    have:=size (len-1) (by omega)
    rwa [show len-1+1=len by omega] at this
  . intro i hi;rw [List.getElem_map];cases ag with
    |true=>exact ⟨rfl,hlen _⟩
    |false=>
     have hi':i<xs.length:=(by simpa using hi);obtain ⟨_,cs',_,h2⟩:=VX i hi';have h1:=hlen xs[i];have:=(h2.2 0 (by omega)).1;have e1:yh false (f xs[i])=(f xs[i])[0]'(by omega):=(by simp [yh,q6,q7 (show 0<(f xs[i]).length by omega)]);rw [e1];have hn1:=hag rfl;unfold fits;split<;>first|(rename_i hh;rw [hh] at this;exact this.elim)|exact ⟨rfl,hn1⟩
  intro i hi;have hi':i<xs.length:=by simpa using hi
  rw [List.getElem_map];obtain ⟨_,cs',h1,h2⟩:=VX i hi';obtain ⟨_,h3,h4⟩:=World.cells?_some h1;have vN:∀j,j<n->bcs[a.off+(i*n+j)]? =cs'[j]? :=by intro j hj;have:=h4 j hj;rw [add_add] at this;rw [q7 (by omega)] at this ⊢;exact cells i (by omega) j hj _ this
  have hsz:=size i (by omega);cases ag with
  |true=>
   have e2:elemV bcs.toList (a.off+i*n) ⟨n,true⟩= .agg cs'.toArray:=by
    simp only [elemV,if_true];congr 2;apply List.ext_getElem?
    intro j;by_cases hj:j<n
    . rw [List.getElem?_take,if_pos hj,List.getElem?_drop,←vN j hj];simp [Nat.add_assoc]
    rw [List.getElem?_take,if_neg hj,q8 (by omega)]
   show Rd w (ov w) (yh true (f xs[i])) (elemV bcs.toList (a.off+i*n) ⟨n,true⟩);rw [e2];exact .agg _ _ (by simpa using h2.1) (λj hj=>(h2.2 j hj).1) (λj hj=>(h2.2 j hj).2)
  |false=>
   have hn1:=hag rfl;subst hn1;have hl1:=hlen xs[i];have e2:elemV bcs.toList (a.off+i*1) ⟨1,false⟩=cs'.getD 0 uD:=by simp only [elemV,q3,if_false,q6];have:=vN 0 (by omega);rw [Nat.add_zero] at this;rw [←this];simp
   show Rd w (ov w) (yh false (f xs[i])) (elemV bcs.toList (a.off+i*1) ⟨1,false⟩);rw [e2];have e1:yh false (f xs[i])=(f xs[i])[0]'(by omega):=(by simp [yh,q6,q7 (show 0<(f xs[i]).length by omega)]);rw [e1];exact (h2.2 0 (by omega)).2
inductive U9 (P:Program):List Field->Nat->{α:Type}->(α->Prop)->(α->List AV)->Prop
 |nil (o:Nat):U9 P [] o (λ_:Unit=>True) (λ_=>[])
 |cons {α β:Type} {f:Field} {r:List Field} {o n:Nat} {ok:α->Prop} {g:α->List AV} {ok':β->Prop} {g':β->List AV} (ho:f.offset=o) (hn:P.cellsOf f.type=n) (hl:∀a,(g a).length=n) (hd:O_ P f.type ok g) (hr:U9 P r (o+n) ok' g'):
   U9 P (f::r) o (λp:α × β=>ok p.1/\ok' p.2) (λp=>g p.1++g' p.2)
theorem O_.arg {P:Program} {t:TypeId} {α:Type} {ok:α->Prop} {f:α->lA} (h:O_ P t ok f) (ag:Bool) (hf:∀a,if ag then True else (f a).length=1) {H:Type} {enc:TypeId × Value->H} {w:World} {base:Nat} {held:Bool} {v:Value} {d:DataW H} {ps:List MemPlace}
 (ht:DataW.Trod enc P w base (λ_=>true) held t v d ps) (hv:if ag then ∃cs,v= .agg cs else v.cells= #[v]):∃a,ok a/\Rd w (ov w) (yh ag (f a)) v:=by
 obtain ⟨fuel,hx⟩:=ht;obtain ⟨a,h1,h2,h3⟩:=h H enc w base held fuel _ _ hx;refine ⟨a,h1,?_⟩;cases ag with
 |true=>
  obtain ⟨cs,rfl⟩:=hv;have e:(Value.agg cs).cells=cs:=rfl;rw [e] at h2 h3;exact .agg _ _ (by simpa using h2) (λi hi=>(h3 i hi).1) (λi hi=>(h3 i hi).2)
 |false=>
  have hl:(f a).length=1:=by simpa using hf a
  have hv:v.cells= #[v]:=hv;rw [hv] at h3;have:=(h3 0 (by omega)).2;have e1:yh false (f a)=(f a)[0]'(by omega):=by simp [yh,q6,q7 (show 0<(f a).length by omega)]
  rw [e1];exact this
theorem Fn.law {P:Program} {f:FuncId} {args:lA} {b:Bool} (h:Fn P f args true (· = .val (.bool b))) (W:World) (zq:Kh W (ov W)) (vs:aV) (hs:vs.size=args.length)
 (hr:∀i (h:i<args.length),Rd W (ov W) args[i] (vs.toList.getD i uD)):Calls P f vs W λe W'=>e= .returned (.bool b)/\Below W.heap.size W W':=by
 refine (h.2 W (ov W) vs (λ_ hb=>hb) zq hs hr).mono λe W' ⟨r,v,he,hx,hg,j8⟩=> ?_;subst hx;obtain ⟨fs,a_,_⟩:=j8;have hv:v= .bool b:=by
  cases a_ with
  |rd _ _ h=>cases h with|val _ _=>rfl
 subst hv;exact ⟨he,hg.below⟩
end Go.Vc
namespace Go.Proofs.YtofpaabacebkkaaGreatDoor
open Go.Vc Go.ChangeShapes Go.WideShapes Go.ChangeAt Go.RowKit
theorem H3 {H:Type} {enc:TypeId × Value->H} {a:Assume} {C:Checked} {os:Os} {f:FuncId} {fn:Func} {s:ChangeSpec} {conds:List PathCond} {apart fresh handsOn again:Bool} {X:World->aV->Prop}
 (hX:∀(w w':World) (args:aV),w.heap=w'.heap->X w args->X w' args)
 (own:ownKnob C.prog.godebug=none) (started:os.Started) (noInit:C.prog.inits.idxOf? f=none) (hfn:C.prog.funcs[f]? =some fn)
 (witness:∃(w:World) (tape:Tape) (i:Input),w.os=os/\(w.forCall tape i).Shaped C.prog/\i.vars=[]/\Input.okWide C.prog (w.forCall tape i) .any w.heap.size f i∧
   ((s.pre enc C.prog fn conds apart (w.forCall tape i).memory i.args/\X (w.forCall tape i).memory i.args)/\sizedMet enc C.prog fn (OpenSpec.ofChange s) apart (w.forCall tape i).memory i.args)/\a.holds C.prog (lone (Frame.enter C.prog f i.args .normal) [] (w.forCall tape i)))
 (contract:∀(W:World) (base:Nat) (args:aV) (ds gs:List (DataW H)) (before:List MemPlace),
   (∀(j:Nat) t v,fn.params[j]? =some t->args[j]? =some v->Value.okWide C.prog W .any base t v)→
   DataW.Whole enc C.prog fn.params.toList s.vars apart W args.toList ds gs before→
   conds.all (PathCond.test C.prog ⟨fn.params.toList,ds,s.plain.varTypes C.prog,gs⟩)=true→
   (DataW.weightsEach C.prog (fn.params.toList++s.plain.varTypes C.prog) (ds++gs)).all (· <=reachBytes)=true->X W args->W.ShapedOpen C.prog→
   a.holds C.prog (lone (Frame.enter C.prog f args .normal) [] W)→
   Calls C.prog f args W λe W'=>∃v,e= .returned v/\s.post enc C.prog fn apart fresh handsOn again W args v W'):
 ReturnsInHanded a C os f .any (λw args=>(s.pre enc C.prog fn conds apart w args/\X w args)/\sizedMet enc C.prog fn (OpenSpec.ofChange s) apart w args) (s.post enc C.prog fn apart fresh handsOn again):=by
 refine returnsInHanded_of_calls own started noInit witness ?_;intro w tape i _ hsh _ hok dC VY;obtain ⟨_,_,_,fn',YC,_,_,_,_,Ta⟩:=hok;have e:fn'=fn:=Option.some.inj (YC.symm.trans hfn);subst e;obtain ⟨⟨⟨ds,gs,before,hw,hc⟩,hx⟩,hz⟩:=dC;have hw':=DataW.Whole.of_heap (w':=w.forCall tape i) (by rfl) hw;refine (contract (w.forCall tape i) w.heap.size i.args ds gs before Ta hw' hc (hz.weights hw) (hX _ _ _ (by rfl) hx) hsh VY).mono λe W' ⟨v,he,hp⟩=> ?_;subst he;exact ChangeSpec.post_blind hp
theorem own:ownKnob Tryz.prog.godebug=none:=by kernel_rfl
theorem laidOut:laidOutB pG=true:=by kernel_rfl
theorem yi {P:Program} {W:World} {n:String} {g:Nat} {cs:aV} (hg:P.globalNamed n=some g) (h:W.var? P n=some cs):ov W g/\∃e fr,W.heap[g]? =some (.cells cs e fr):=by
 unfold World.var? at h;rw [hg] at h;simp only [Option.bind_some] at h;rcases h1:W.heap[g]? with _|o
 . rw [h1] at h;cases h
 rw [h1] at h;refine ⟨(q1.1 h1).1,?_⟩;cases o<;>simp at h;subst h;exact ⟨_,_,rfl⟩
theorem CY {P:Program} {W:World} {g:Nat} {t:TypeId} {zero:aV} (h:W.ShapedOpen P) (hg:g<P.globals.size)
 (h0:((begin P (λ_ _=>0) default).world.heap[g]?).bind Obj.row? =some (zero,t)) (hz:zero.size=1)
 (hb:P.buildable t=true) (hc:P.cellTypes P.depth t=some [t]) (hu:P.underlying t=some (.int .i64)):ov W g/\∃cs e fr,W.heap[g]? =some (.cells cs e fr)/\Q7 cs:=by
 obtain ⟨m,hm⟩:=cell_of_shapedOpen_int h hg h0 hz hb hc hu;obtain ⟨cs,hh,hs,_⟩:=h.1 g zero t hg h0;have hsz:cs.size=1:=hs.trans hz;refine ⟨(q1.1 hh).1,cs,_,_,hh,m,?_⟩;have h1:cs[0]? =some (.int .i64 m):=by simpa [World.cell?,hh] using hm
 obtain ⟨l⟩:=cs;match l,hsz,h1 with
 | [x],_,h1=>simp at h1;subst h1;rfl
def O':List (String × DataW Unit):=[("math/bits.deBruijn32tab",Rows.laid_math_bits_deBruijn32tab),("math/bits.deBruijn64tab",Rows.laid_math_bits_deBruijn64tab),("internal/strconv.uint64pow10",Rows.laid_internal_strconv_uint64pow10)]
theorem Pa {H:Type}:(Rows.laid_internal_strconv_uint64pow10:DataW H)=Lib.tabData .u64 ((List.range 20).map λi=>((10^i:Nat):Int)):=rfl
theorem Sz {W:World} {r:List (String × DataW Unit)} (h:laidMet pG (("internal/strconv.uint64pow10",Rows.laid_internal_strconv_uint64pow10)::r) W):
 ov W 5/\∃cs e fr,W.heap[5]? =some (.cells cs e fr)/\Q8 cs:=by
 rw [Pa] at h;have h1:=Lib.tabIs_of_head (g:=5) (by kernel_rfl) (by kernel_rfl) underlying232 underlying174 (by kernel_rfl) (by kernel_rfl) h;obtain ⟨a,e,fr,h2⟩:=yi (by kernel_rfl) h1;refine ⟨a,_,e,fr,h2,?_⟩;unfold Q8;rw [List.map_map];rfl
theorem Fj {W:World} {n:String} {g:Nat} {t:TypeId} {a:Option Addr} (hg:Tryz.prog.globalNamed n=some g) (h:W.var? pG n=some #[.iface t (.pointer a)]):
 ov W g/\∃cs e fr,W.heap[g]? =some (.cells cs e fr)/\Nj cs:=by
 obtain ⟨a,e,fr,h2⟩:=yi hg h;exact ⟨a,_,e,fr,h2,_,_,rfl⟩
def laidAll:List (String × DataW Unit):=O'++[("unicode/utf8.acceptRanges",Rows.laid_unicode_utf8_acceptRanges),("strconv.ErrRange",Rows.laid_strconv_ErrRange),("strconv.ErrSyntax",Rows.laid_strconv_ErrSyntax),("unicode/utf8.first",Rows.laid_unicode_utf8_first)]
theorem yj (os:Os) (args:aV):((World.laidAll pG os laidAll).forCall (λ_ _=>0) ⟨#[],args,[]⟩).Shaped pG:=
 World.shaped_of_ZipB (by kernel_rfl) (by kernel_rfl)
theorem Fk (os:Os) (args:aV):laidMetH pG laidAll ((World.laidAll pG os laidAll).forCall (λ_ _=>0) ⟨#[],args,[]⟩).memory:=by rw [MakeChecks.laidMetH_plain _ _ _ (by kernel_rfl)];exact laidMet_laidAll _ (by kernel_rfl) (by kernel_rfl)
theorem star: "*" ++ "errors.errorString" = "*errors.errorString" :=by decide
theorem Pb (u:TypeId) (h:Tryz.prog.typeName? 3 u=some "*errors.errorString"):u=241:=
 typeName_ptr_named (nm:= "errors.errorString") (by rw [star];kernel_rfl) (by kernel_rfl) (by decide) u (by rw [star];exact h)
theorem SA {W:World} (h:laidMetH pG laidAll W) (hs:W.ShapedOpen pG):Kh W (ov W):=by
 rw [MakeChecks.laidMetH_plain _ _ _ (by kernel_rfl)] at h;have h1:laidMet pG (("internal/strconv.uint64pow10",Rows.laid_internal_strconv_uint64pow10)::_) W:=h.tail.tail;have h2:laidMet pG (("strconv.ErrRange",Rows.laid_strconv_ErrRange)::_) W:=h1.tail.tail;have h3:laidMet pG (("strconv.ErrSyntax",Rows.laid_strconv_ErrSyntax)::_) W:=h2.tail;obtain ⟨a1,s1,v1,_⟩:=laid_sentinel (g:=2) h2 (by kernel_rfl) (by kernel_rfl) underlying99 Pb underlying241 underlying243 rfl rfl underlying9 (by kernel_rfl) (by kernel_rfl);obtain ⟨a2,s2,v2,_⟩:=laid_sentinel (g:=1) h3 (by kernel_rfl) (by kernel_rfl) underlying99 Pb underlying241 underlying243 rfl rfl underlying9 (by kernel_rfl) (by kernel_rfl);intro g p hg;simp only [DQ,q11,Prod.mk.injEq,List.not_mem_nil,or_false] at hg;rcases hg with ⟨rfl,rfl⟩|⟨rfl,rfl⟩|⟨rfl,rfl⟩|⟨rfl,rfl⟩
 . exact CY (zero:= #[.int .i64 0]) hs (oT (by kernel_rfl)) (by kernel_rfl) (by kernel_rfl) (by kernel_rfl) (by kernel_rfl) underlying3
 . exact Sz h1
 . exact Fj (by kernel_rfl) v2
 exact Fj (by kernel_rfl) v1
end Go.Proofs.YtofpaabacebkkaaGreatDoor
namespace Go.Vc
def keys (m:Mem):lN:=m.map (·.1)
theorem keys_nil:keys []=[]:=rfl
theorem keys_cons (l:Nat) (b:bc) (r:Mem):keys ((l,b)::r)=l::keys r:=rfl
theorem CZ {m:Mem} {l:Nat} (h:ah m l≠none):l∈keys m:=by
 induction m with
 |nil=>exact absurd rfl h
 |cons p r ih=>
  obtain ⟨k,v⟩:=p;rw [aw] at h;by_cases e:k=l
  . simp [keys,e]
  rw [if_neg e] at h;exact q12 _ (ih h)
theorem C0 {m:Mem} {l:Nat} (h:l∈keys m):ah m l≠none:=by
 induction m with
 |nil=>cases h
 |cons p r ih=>
  obtain ⟨k,v⟩:=p;rw [aw];by_cases e:k=l
  . rw [if_pos e];exact λh=>by cases h
  rw [if_neg e];refine ih ?_;rcases q11.1 h with h|h
  . exact absurd h.symm e
  exact h
def Wb (L:lN) (m:Mem):Prop:=(∀l,ah m l≠none->l∈L)/\∀l v xs,ah m l=some (.box v xs)->∀p,p∈aq xs->p.1∈L
def oW (L:lN) (m m':Mem):Prop:=(∀l,l∈L->ah m' l=ah m l)/\Wb L m'
def sx (L:lN) (φ:Nat->LS) (l:Nat):LS:=if l∈L then φ l else .dead
def tC (L:lN) (fp:Nat->lN) (l:Nat):lN:=if l∈L then fp l else []
theorem iV {L:lN} {φ:Nat->LS} {l:Nat} (h:l∈L):sx L φ l=φ l:=if_pos h
theorem C1 {L:lN} {fp:Nat->lN} {l:Nat} (h:l∈L):tC L fp l=fp l:=if_pos h
theorem fG {L:lN} {fp:Nat->lN} {l b:Nat} (h:b∈tC L fp l):l∈L/\b∈fp l:=by
 unfold tC at h;split at h
 . exact ⟨‹_›,h⟩
 cases h
section
variable {P:Program} {B:eC} {N:Nat} {φ:Nat->LS} {fp:Nat->lN} {S:nP} {ts:Env} {m:Mem} {a:Act} {w:World}
theorem RS.sub (h:RS B N φ fp S ts m a w) {L:lN} {m':Mem} (hk:oW L m m') (hb:∀l,ah B.m0 l≠none->l∈L):
 RS B 0 (sx L φ) (tC L fp) S [] m' {tmps:= #[],defers:=[]} w:=by
 obtain ⟨k1,k2,k3⟩:=hk
 refine {tm:=λt=>by rw [look_nil];exact .rd _ _ (.undef _),tl:=λt l af hl=>(by rw [look_nil] at hl;cases hl),b_:=λl hl=> ?_,aG:=λl b hb=> ?_,bl:=λl v xs hb l' af hl=> ?_,
         ia:=λl=> ?_,fJ:=λl l' b h1 h2=>h.fJ l l' b (fG h1).2 (fG h2).2,bQ:=λl b hb=>h.bQ l b (fG hb).2,cu:=λl b hb=>h.cu l b (fG hb).2,
         sB:=h.sB,base:=h.base,out:=h.out,kq:=h.kq,kn:=λl af hl hk=> ?_,fix:=λl af hl hk=> ?_,size:=h.size,defers:=rfl,lq:=rfl,jv:=h.jv}
 . by_cases hm:l∈L
   . rw [iV hm,C1 hm];rw [k1 l hm] at hl;exact h.b_ l hl
   unfold sx tC;rw [if_neg hm,if_neg hm];exact ⟨rfl,rfl⟩
 . have hm:=k2 l (by rw [hb];exact λe=>by cases e);have hb2:=hb;rw [k1 l hm] at hb2;rw [C1 hm];refine (h.aG l b hb2).mono (λ_ _=>rfl) (λ_ h=>h) (λl b sh af cs e _ hb=>⟨cs,e,hb,rfl⟩) (λ_ _=>rfl) (iV hm) λv xs e l' af hl'=> ?_;subst e;rw [iV (k3 l v xs hb _ hl')];exact LS.le_refl _ _
 . have hm:=k2 l (by rw [hb];exact λe=>by cases e);have hb2:=hb;rw [k1 l hm] at hb2;obtain ⟨k,h1,h2⟩:=h.bl l v xs hb2 l' af hl;exact ⟨k,(k1 l' (k3 l v xs hb _ hl)).trans h1,h2⟩
 . unfold tC;split
   . exact h.ia l
   exact q16
 . obtain ⟨k,h1,h2⟩:=h.kn l af hl hk;obtain ⟨k0,h3,_⟩:=hk;exact ⟨k,(k1 l (hb l (by rw [h3];exact λe=>by cases e))).trans h1,h2⟩
 obtain ⟨k0,h3,h4⟩:=hk;rw [iV (hb l (by rw [h3];exact λe=>by cases e))];exact h.fix l af hl ⟨k0,h3,h4⟩
end
def mM (w:World) (φ:Nat->LS) (fp:Nat->lN) (S:nP) (m0:Mem):eC:=⟨w,λl b=>b∈fp l,S,φ,m0⟩
def fL (P:Program) (f:FuncId) (m0:Mem) (xs:lA) (post:AV->Mem->Prop):Prop:=
 Enters P f/\∀(w:World) (φ:Nat->LS) (fp:Nat->lN) (S:nP) (vs:aV),vs.size=xs.length→
  RS (mM w φ fp S m0) vs.size φ fp S (bF 0 xs) m0 {tmps:=vs,defers:=[]} w→
  Calls P f vs w λe w'=>∃x v m' φ' fp' S',e= .returned v/\post x m'/\RV w' S' φ' x v/\ao x=[]/\Wb (keys m0) m'/\RS (mM w φ fp S m0) 0 φ' fp' S' [] m' {tmps:= #[],defers:=[]} w'
theorem fL.mono {P:Program} {f:FuncId} {m0:Mem} {xs:lA} {post post':AV->Mem->Prop} (h:fL P f m0 xs post) (hp:∀r m',post r m'->post' r m'):fL P f m0 xs post':=
 ⟨h.1,λw φ fp S vs h1 h2=>(h.2 w φ fp S vs h1 h2).mono λ_ _ ⟨x,v,m',φ',fp',S',g1,g2,g3⟩=>⟨x,v,m',φ',fp',S',g1,hp _ _ g2,g3⟩⟩
def U_ (P:Program) (rs:List ResultVar) (L:lN) (post:AV->Mem->Prop):di
 | .normal=>λts m=>aN P (λys=>aq ys=[]/\∃m',post (bE ys) m'/\oW L m m') rs ts m []
 | .ret=>λts m=>aN P (λys=>aq ys=[]/\∃m',post (bE ys) m'/\oW L m m') rs ts m []
 |_=>λ_ _=>False
theorem Pc (P:Program) (rs:List ResultVar) (L:lN) (post:AV->Mem->Prop) (ts:Env) (m:Mem):
 U_ P rs L post .ret ts m=aN P (λys=>aq ys=[]/\∃m',post (bE ys) m'/\oW L m m') rs ts m []:=rfl
theorem im {ys:lA} (h:aq ys=[]):ao (bE ys)=[]:=by
 match ys,h with
 | [],_=>simp [bE,ao,aq]
 | [y],h=>simpa [bE,aq] using h
 |y::y'::r,h=>rw [tu];simpa [ao] using h
theorem fL.np {P:Program} {f:FuncId} {fn:Func} {c:Code} {m0:Mem} {xs:List AV} {post:AV→Mem→Prop} (hf:P.funcs[f]? =some fn) (hn:(fn.name== "runtime.NumGoroutine")=false) (hb:fn.body=some c)
 (hok:codeOk fn.ntmps c=true) (ha:xs.length<=fn.ntmps) (hv:vc P fn.ntmps c (bF 0 xs) m0 (U_ P fn.results.toList (keys m0) post)):fL P f m0 xs post:=by
 refine ⟨⟨fn,c,hf,hn,hb⟩,λw φ fp S vs hsz hR0=> ?_⟩;refine calls_of_wp hf hb ?_;have hRS:RS (mM w φ fp S m0) fn.ntmps φ fp S (bF 0 xs) m0 {tmps:=vs++q2 (fn.ntmps-vs.size) undef,defers:=[]} w:=by
  refine {hR0 with tm:=λt=> ?_,defers:=rfl,lq:=by simp;omega};by_cases h:t<xs.length
  . have h1:=hR0.tm t;have:vs.getD t uD=(vs++q2 (fn.ntmps-vs.size) undef).getD t uD:=by
     have h2:t<vs.size:=(by omega);simp only [q0];rw [Array.getElem?_append_left h2]
    rw [←this];exact h1
  rw [bG];have:(if 0<=t then (xs[t-0]?).getD AV.undef else .undef)= .undef:=by simp [q8 (show xs.length<=t by omega)]
  rw [this];exact .rd _ _ (.undef _)
 have fS:∀a' w',ic (mM w φ fp S m0) fn.ntmps (λts m=>aN P (λys=>aq ys=[]/\∃m',post (bE ys) m'/\oW (keys m0) m m') fn.results.toList ts m []) a' w'→
  a'.defers=[]/\∃v,(results fn a'.tmps).run P w'= .ok v w'/\∃x v' m' φ' fp' S',Ending.returned v= .returned v'/\post x m'/\RV w' S' φ' x v'/\ao x=[]/\Wb (keys m0) m'/\RS (mM w φ fp S m0) 0 φ' fp' S' [] m' {tmps:= #[],defers:=[]} w':=by
  rintro a' w' ⟨φ',fp',S',ts',m',h',hk⟩;refine ⟨h'.defers,?_⟩;obtain ⟨ys,us,⟨hU,m2,gO,T_⟩,h2,h3,h4⟩:=cH h' fn.results.toList [] [] ⟨rfl,λi hi=>absurd hi (q20 _)⟩ (λi hi=>absurd hi (q20 _)) hk;obtain ⟨h3a,h3b⟩:=h3;simp only [q15] at h3a h3b;refine ⟨if h:us.toArray.size=1 then us.toArray[0] else .tuple us.toArray,?_,bE ys,_,m2,sx (keys m0) φ',tC (keys m0) fp',S',rfl,gO,?_,im hU,T_.2,h'.sub T_ λl hl=>CZ hl⟩
  . have hm:results fn a'.tmps=(do let vs ←fn.results.mapM (cZ a'.tmps);pure (if h:vs.size=1 then vs[0] else .tuple vs)):=by
     unfold results;congr 1
    rw [hm,Sem.run_bind,Array.mapM_eq_mapM_toList];have:(List.toArray <$> fn.results.toList.mapM (cZ a'.tmps):Sem aV).run P w'= .ok us.toArray w':=by rw [map_eq_pure_bind,Sem.run_bind,h2];rfl
    rw [this];rfl
  refine (mG h3a h3b).mono (λ_ _=>rfl) (λ_ h=>h) (λl b sh af cs e _ hb=>⟨cs,e,hb,rfl⟩) λl af hl=> ?_;rw [im hU] at hl;cases hl
 refine wp_mono (cB c _ _ _ hok hv _ _ _ _ _ _ hRS) ?_;intro e a' w' hq;cases e with
 |normal=>exact fS a' w' hq
 |ret=>exact fS a' w' hq
 |_=>obtain ⟨_,_,_,_,_,_,hh⟩:=hq;exact hh.elim
theorem fL.cW {P:Program} {f:FuncId} {fn:Func} {c:Code} {m0:Mem} {xs:lA} {post:AV->Mem->Prop} (N:Nat) (rs:List ResultVar) (hf:P.funcs[f]? =some fn) (hN:fn.ntmps=N:=by exact rfl) (hr:fn.results.toList=rs:=by exact rfl)
 (hn:(fn.name== "runtime.NumGoroutine")=false:=by exact rfl) (hb:fn.body=some c:=by exact rfl) (hok:codeOk N c=true:=by exact rfl) (ha:xs.length≤N:=by exact oT rfl) (hv:vc P N c (bF 0 xs) m0 (U_ P rs (keys m0) post)):fL P f m0 xs post:=by
 subst hN;subst hr;exact fL.np hf hn hb hok ha hv
theorem yk {m' m:Mem} {l:Nat} {b:bc} (h:ah m' l=some b):ah (m'++m) l=some b:=by
 induction m' with
 |nil=>cases h
 |cons p r ih=>
  obtain ⟨k,v⟩:=p;rw [List.cons_append,aw];rw [aw] at h;by_cases e:k=l
  . rw [if_pos e] at h ⊢;exact h
  rw [if_neg e] at h ⊢;exact ih h
theorem H4 {m' m:Mem} {l:Nat} (h:ah m' l=none):ah (m'++m) l=ah m l:=by
 induction m' with
 |nil=>rfl
 |cons p r ih=>
  obtain ⟨k,v⟩:=p;rw [List.cons_append,aw];rw [aw] at h;by_cases e:k=l
  . rw [if_pos e] at h;cases h
  rw [if_neg e] at h ⊢;exact ih h
def oX (P:Program) (f:FuncId) (xs:lA) (m:Mem) (k:AV->Mem->Prop):Prop:=
 Enters P f/\∀(B:eC) (N:Nat) (φ:Nat->LS) (fp:Nat->lN) (S:nP) (ts:Env) (a:Act) (w:World) (vs:aV),RS B N φ fp S ts m a w->vs.size=xs.length→
  (∀i (h:i<xs.length),RV w S φ xs[i] (vs.toList.getD i uD))->(∀i (h:i<xs.length) l af,(l,af)∈ao xs[i]->known m l af)→
  Calls P f vs w λe w'=>∃v,e= .returned v/\∃φ' fp' S' m' x,RS B N φ' fp' S' ts m' a w'/\RV w' S' φ' x v/\(∀l af,(l,af)∈ao x->known m' l af)/\k x m'∧
   ∀l,ah m l≠none->bC<=l->∀b,b∈fp' l->w.heap.size<=b\/b∈fp l
theorem oX.io {P:Program} {f:FuncId} {xs:lA} {m:Mem} {k:AV->Mem->Prop} (h:oX P f xs m k):h_ P f xs m k:=by intro B N φ fp S ts a w vs hRS hsz hx hxl;refine ⟨h.1,(h.2 B N φ fp S ts a w vs hRS hsz hx hxl).mono ?_⟩;rintro e w' ⟨v,rfl,φ',fp',S',m',x,g1,g2,g3,g4,_⟩;exact ⟨v,rfl,φ',fp',S',ts,m',x,g1,g2,g3,rfl,g4⟩
theorem oX.DL {P:Program} {f:FuncId}:∀(ρ:List (Nat × Nat)) {xs:lA} {m:Mem} {k:AV->Mem->Prop},oS ρ m->oX P f (mF ρ xs) (kN ρ m) (λx m'=>k (so ρ x) (sn ρ m'))->oX P f xs m k
 | [],xs,m,k,_,h=>by
   simp only [kN,mF] at h;rw [show xs.map (p7 [])=xs from by rw [show p7 []=id from rfl,List.map_id]] at h;exact h
 |(l,l')::r,xs,m,k,⟨⟨⟨hl,hio⟩,hh,hl'⟩,rE⟩,hv=>by
  have hlen:(qu l l' xs).length=xs.length:=bX l l' xs;have e9:mF r (qu l l' xs)=mF ((l,l')::r) xs:=by refine List.ext_getElem (by simp [mF,hlen]) λi h1 h2=> ?_;simp only [mF,List.getElem_map];rw [e8 l l' xs i (by simpa [mF] using h2)];rfl
  have lh:=oX.DL r (k:=λx m'=>k (iS l l' x) (xY l l' m')) (xs:=qu l l' xs) rE (by rw [e9];exact hv);refine ⟨lh.1,λB N φ fp S ts a w vs h hsz hx hxl=> ?_⟩;have hm0:ah B.m0 l'=none:=by
   cases he:ah B.m0 l' with
   |none=>rfl
   |some k0=>
    obtain ⟨k2,h7,_⟩:=h.kn l' k0.af hio ⟨k0,he,q17 _⟩;rw [show ah m l'=none from hl'] at h7;cases h7
  have VW:fp l'=[]:=(h.b_ l' hl').2;have h1:=h.Ow hl hm0 (λb hb=>by rw [VW] at hb;cases hb);have hne:l≠l':=by unfold bC at*;omega
  have e1:rl l l' l=l':=by simp [rl]
  have e2:rl l l' l'=l:=by unfold rl;rw [if_neg (Ne.symm hne),if_pos rfl]
  have hlk:∀x,ah (xY l l' m) x≠none↔ah m (rl l l' x)≠none:=λx=>by rw [cN];cases ah m (rl l l' x)<;>simp
  have:=lh.2 B N _ _ S _ a w vs h1 (by rw [hlen];exact hsz) (λi hi=>by
   have h':i<xs.length:=(by rw [hlen] at hi;exact hi)
   rw [e8 l l' xs i h' hi];exact (hx i h').DL l l') (λi hi l0 af hl0=>by
   have h':i<xs.length:=(by rw [hlen] at hi;exact hi);rw [e8 l l' xs i h' hi,jO] at hl0;obtain ⟨⟨k0,v0⟩,q1,q2⟩:=q14.1 hl0;simp only [Prod.mk.injEq] at q2;obtain ⟨rfl,rfl⟩:=q2;obtain ⟨b0,q3,q4⟩:=hxl i h' k0 v0 q1
   exact ⟨JF l l' b0,by rw [cN,jN,q3];rfl,by rw [nq];exact q4⟩)
  refine this.mono ?_;rintro e w' ⟨v,rfl,φ',fp',S',m',x,g1,g2,g3,g4,g5⟩;have hb5:∀b,b∈fp' l'->B.w0.heap.size<=b:=by
   intro b hb';rcases g5 l' ((hlk l').2 (by rw [e2];exact hh)) hio b hb' with h5|h5
   . exact q18 h.size h5
   have h5:b∈fp (rl l l' l'):=h5;rw [e2] at h5;rcases (h.cu l b h5).2 with h6|⟨_,_,h6,_⟩
   . exact h6
   exact absurd hl (Nat.not_lt.2 h6)
  have g6:=g1.Ow hl hm0 hb5;refine ⟨v,rfl,λk=>φ' (rl l l' k),λk=>fp' (rl l l' k),S',xY l l' m',iS l l' x,?_,g2.DL l l',λl0 af hl0=> ?_,g4,λl0 h0 h2 b hb'=> ?_⟩
  . have ets:∀t,look (Hx l l' (Hx l l' ts)) t=look ts t:=λt=>by rw [iT,iT,CR]
    exact {g6 with tm:=λt=>by rw [←ets];exact g6.tm t,tl:=λt l af hl=>g6.tl t l af (by rw [ets];exact hl)}
  . rw [jO] at hl0;obtain ⟨⟨k0,v0⟩,q1,q2⟩:=q14.1 hl0;simp only [Prod.mk.injEq] at q2;obtain ⟨rfl,rfl⟩:=q2;obtain ⟨b0,q3,q4⟩:=g3 k0 v0 q1;exact ⟨JF l l' b0,by rw [cN,jN,q3];rfl,by rw [nq];exact q4⟩
  have n1:l0≠l:=λe=>by subst e;exact absurd hl (Nat.not_lt.2 h2)
  have n2:l0≠l':=λe=>by subst e;exact h0 hl'
  have e3:rl l l' l0=l0:=by unfold rl;rw [if_neg n1,if_neg n2]
  have hb':b∈fp' (rl l l' l0):=hb';rw [e3] at hb';have:=g5 l0 ((hlk l0).2 (by rw [e3];exact h0)) h2 b hb';rcases this with h5|h5
  . exact .inl h5
  have h5:b∈fp (rl l l' l0):=h5;rw [e3] at h5;exact .inr h5
theorem fL.call {P:Program} {f:FuncId} {m0:Mem} {xs:lA} {post:AV->Mem->Prop} {m:Mem} {k:AV->Mem->Prop} (hH:fL P f m0 xs post) (hhi:∀l,l∈keys m0->bC<=l) (hm:∀l,l∈keys m0->ah m l=ah m0 l)
 (hok:Wb (keys m0) m0) (hxs:∀p,p∈aq xs->p.1∈keys m0) (hk:∀r m',post r m'->k r (m'++m)):oX P f xs m k:=by
 refine ⟨hH.1,λB N φ fp S ts a w vs h hsz hx hxl=> ?_⟩;have hR0:RS (mM w (sx (keys m0) φ) (tC (keys m0) fp) S m0) vs.size (sx (keys m0) φ) (tC (keys m0) fp) S (bF 0 xs) m0 {tmps:=vs,defers:=[]} w:=by
  refine {tm:=λt=> ?_,tl:=λt l af hl=> ?_,b_:=λl hl=> ?_,aG:=λl b hb=> ?_,bl:=λl v xs hb l' af hl=> ?_,ia:=λl=> ?_,fJ:=λl l' b h1 h2=>h.fJ l l' b (fG h1).2 (fG h2).2,
          bQ:=λl b hb=>h.bQ l b (fG hb).2,cu:=λl b hb=>⟨(h.cu l b (fG hb).2).1,.inr ⟨l,hb,hhi l (fG hb).1,.inl rfl⟩⟩,sB:=λb hb=>⟨(h.sB b hb).1,.inr hb⟩,base:=λb _ _=>rfl,out:=a7.refl _,kq:=jH.refl _,
          kn:=λ_ _ _ hk=>hk,fix:=λ_ _ _ _=>LS.le_refl _ _,size:=q17 _,defers:=rfl,lq:=rfl,jv:=h.jv}
  . rw [bG];by_cases ht:t<xs.length
    . have e:(if 0<=t then (xs[t-0]?).getD AV.undef else .undef)=xs[t]:=(by simp [ht]);rw [e];have e2:vs.toList.getD t uD=vs.getD t uD:=(by simp [q6,q0]);rw [←e2];refine (hx t ht).mono (λ_ _=>rfl) (λ_ h=>h) (λl b sh af cs e _ hb=>⟨cs,e,hb,rfl⟩) λl af hl=> ?_;rw [iV (hxs _ (bp ht hl))];exact LS.le_refl _ _
    have e:(if 0<=t then (xs[t-0]?).getD AV.undef else .undef)= .undef:=(by simp [q8 (show xs.length<=t by omega)]);rw [e];exact .rd _ _ (.undef _)
  . rw [bG] at hl;by_cases ht:t<xs.length
    . have e:(if 0<=t then (xs[t-0]?).getD AV.undef else .undef)=xs[t]:=(by simp [ht]);rw [e] at hl;obtain ⟨b,h1,h2⟩:=hxl t ht l af hl;exact ⟨b,(hm l (hxs _ (bp ht hl))).symm.trans h1,h2⟩
    have e:(if 0<=t then (xs[t-0]?).getD AV.undef else .undef)= .undef:=(by simp [q8 (show xs.length<=t by omega)]);rw [e] at hl;cases hl
  . have hn:l∉keys m0:=λhh=>C0 hh hl;unfold sx tC;rw [if_neg hn,if_neg hn];exact ⟨rfl,rfl⟩
  . have hl:l∈keys m0:=CZ (by rw [hb];exact λe=>by cases e);rw [C1 hl];refine (h.aG l b ((hm l hl).trans hb)).mono (λ_ _=>rfl) (λ_ h=>h) (λl b sh af cs e _ hb=>⟨cs,e,hb,rfl⟩) (λ_ _=>rfl) (iV hl) λv xs e l' af hl'=> ?_;subst e;rw [iV (hok.2 l v xs hb _ hl')];exact LS.le_refl _ _
  . have hl0:l∈keys m0:=CZ (by rw [hb];exact λe=>by cases e);obtain ⟨b,h1,h2⟩:=h.bl l v xs ((hm l hl0).trans hb) l' af hl;exact ⟨b,(hm l' (hok.2 l v xs hb _ hl)).symm.trans h1,h2⟩
  unfold tC;split
  . exact h.ia l
  exact q16
 refine (hH.2 w _ _ S vs hsz hR0).mono ?_;rintro e w' ⟨x,v,m',φ',fp',S',rfl,gO,hrv,hU,Xq,hR⟩;have ja:∀b:Nat,b<w.heap.size->(∀l,l∈keys m0->b∉fp l)->w'.heap[b]? =w.heap[b]? :=λb hb hn=>hR.base b hb λl hb'=>hn l (fG hb').1 (fG hb').2;have lf:∀b,S b->w'.heap[b]? =w.heap[b]? :=λb hb=>ja b (h.sB b hb).1 λl _ hb'=>h.bQ _ b hb' hb;have hz:fT φ w w':=λl b sh af cs e _ hb=>hR.kq b cs e hb;have hST:∀b,S' b->S b\/(S' b/\w.heap.size<=b):=λb hb=>by
  rcases (hR.sB b hb).2 with hh|hh
  . exact .inr ⟨hb,hh⟩
  exact .inl hh
 have kno:∀l af,l∈keys m0->known m l af->known m0 l af:=λl af hl ⟨b,h1,h2⟩=>⟨b,(hm l hl).symm.trans h1,h2⟩;have inm':∀l,l∈keys m0->∃b,ah m' l=some b:=by
  intro l hl;cases hb:ah m0 l with
  |none=>exact absurd hb (C0 hl)
  |some b=>
   obtain ⟨b',h1,_⟩:=hR.kn l b.af (hhi l hl) ⟨b,hb,q17 _⟩;exact ⟨b',h1⟩
 have lkL:∀l,l∈keys m0->ah (m'++m) l=ah m' l:=λl hl=>by obtain ⟨b,hb⟩:=inm' l hl;rw [hb];exact yk hb
 have lkR:∀l,l∉keys m0->ah (m'++m) l=ah m l:=λl hl=>H4 (by
  cases hb:ah m' l with
  |none=>rfl
  |some b=>exact absurd (Xq.1 l (by rw [hb];exact λe=>by cases e)) hl)
 have hkn:∀l af,known m l af->known (m'++m) l af:=by
  intro l af hk;by_cases hl:l∈keys m0
  . obtain ⟨b,h1,h2⟩:=hR.kn l af (hhi l hl) (kno l af hl hk);exact ⟨b,(lkL l hl).trans h1,h2⟩
  obtain ⟨b,h1,h2⟩:=hk;exact ⟨b,(lkR l hl).trans h1,h2⟩
 let φ2:Nat->LS:=λl=>if l∈keys m0 then φ' l else φ l
 let fp2:Nat->lN:=λl=>if l∈keys m0 then fp' l else fp l
 have φi:∀l,l∈keys m0->φ2 l=φ' l:=λl hl=>if_pos hl;have φo:∀l,l∉keys m0->φ2 l=φ l:=λl hl=>if_neg hl;have fi:∀l,l∈keys m0->fp2 l=fp' l:=λl hl=>if_pos hl;have fo:∀l,l∉keys m0->fp2 l=fp l:=λl hl=>if_neg hl;have hle:∀l af,known m l af->LS.le (φ2 l) (φ l) af:=by
  intro l af hk;by_cases hl:l∈keys m0
  . have:=hR.fix l af (hhi l hl) (kno l af hl hk);have this:LS.le (φ' l) (sx (keys m0) φ l) af:=this;rw [iV hl] at this;rw [φi l hl];exact this
  rw [φo l hl];exact LS.le_refl _ _
 have fpnew:∀l,l∈keys m0->∀b,b∈fp' l->b<w'.heap.size/\(w.heap.size<=b\/b∈fp l):=by intro l hl b hb;have:=hR.cu l b hb;refine ⟨this.1,this.2.imp id ?_⟩;rintro ⟨l',hb2,_,hl3⟩;have hl3:l'=l:=hl3.resolve_right λe=>C0 hl e;subst hl3;have hb2:b∈tC (keys m0) fp l':=hb2;exact (fG hb2).2
 have Zp:∀l,ah m' l=none->fp' l=[]:=λl hl=>(hR.b_ l hl).2;have mixed:∀l,l∈keys m0->∀l' b,l'∉keys m0->b∈fp' l->b∈fp l'->False:=by
  intro l hl l' b hl' b1 b2;rcases (fpnew l hl b b1).2 with hh|hh
  . have:=(h.cu l' b b2).1;omega
  exact hl' (by rw [h.fJ _ _ b b2 hh];exact hl)
 refine ⟨v,rfl,φ2,fp2,λb=>S b\/(S' b/\w.heap.size<=b),m'++m,x,?_,?_,λl af hl=>(by rw [hU] at hl;cases hl),hk x m' gO,λl _ _ b hb=>(by
  by_cases hl:l∈keys m0
  . rw [fi l hl] at hb;exact (fpnew l hl b hb).2
  rw [fo l hl] at hb;exact .inr hb)⟩
 . refine {tm:=λt=>(h.tm t).mono lf (λb hb=>.inl hb) hz λl af hl=>hle l af (h.tl t l af hl),tl:=λt l af hl=>hkn l af (h.tl t l af hl),b_:=λl hl=> ?_,aG:=λl b hb=> ?_,
           bl:=λl v xs hb l' af hl=> ?_,ia:=λl=> ?_,fJ:=λl l' b h1 h2=> ?_,bQ:=λl b hb=> ?_,cu:=λl b hb=> ?_,sB:=λb hb=> ?_,base:=λb hb hio=> ?_,
           out:=h.out.trans hR.out,kq:=h.kq.trans hR.kq,kn:=λl af hl hk=>hkn l af (h.kn l af hl hk),fix:=λl af hl hk=>LS.le_trans (hle l af (h.kn l af hl hk)) (h.fix l af hl hk),size:=q18 h.size hR.size,defers:=h.defers,lq:=h.lq,
           jv:=h.jv.mono lf λb hb=>.inl hb}
   . by_cases hm1:l∈keys m0
     . obtain ⟨b,hb⟩:=inm' l hm1;rw [lkL l hm1,hb] at hl;cases hl
     rw [lkR l hm1] at hl;rw [φo l hm1,fo l hm1];exact h.b_ l hl
   . by_cases hm1:l∈keys m0
     . rw [lkL l hm1] at hb;rw [fi l hm1];refine (hR.aG l b hb).mono (λ_ _=>rfl) hST (λl b sh af cs e _ hb=>⟨cs,e,hb,rfl⟩) (λ_ _=>rfl) (φi l hm1) λv xs e l' af hl'=> ?_;subst e;rw [φi l' (Xq.2 l v xs hb _ hl')];exact LS.le_refl _ _
     rw [lkR l hm1] at hb;rw [fo l hm1];refine (h.aG l b hb).mono lf (λb hb=>.inl hb) hz (λc hc=>ja c (h.cu l c hc).1 λl' hl' hc'=>hm1 (by rw [h.fJ _ _ c hc hc'];exact hl')) (φo l hm1) λv xs e l' af hl'=> ?_;subst e;exact hle l' af (h.bl l v xs hb l' af hl')
   . by_cases hm1:l∈keys m0
     . rw [lkL l hm1] at hb;obtain ⟨b,h1,h2⟩:=hR.bl l v xs hb l' af hl;exact ⟨b,yk h1,h2⟩
     rw [lkR l hm1] at hb;exact hkn l' af (h.bl l v xs hb l' af hl)
   . by_cases hm1:l∈keys m0
     . rw [fi l hm1];exact hR.ia l
     rw [fo l hm1];exact h.ia l
   . by_cases m1:l∈keys m0
     . rw [fi l m1] at h1;by_cases m2:l'∈keys m0
       . rw [fi l' m2] at h2;exact hR.fJ _ _ b h1 h2
       rw [fo l' m2] at h2;exact (mixed l m1 l' b m2 h1 h2).elim
     rw [fo l m1] at h1;by_cases m2:l'∈keys m0
     . rw [fi l' m2] at h2;exact (mixed l' m2 l b m1 h2 h1).elim
     rw [fo l' m2] at h2;exact h.fJ l l' b h1 h2
   . by_cases hm1:l∈keys m0
     . rw [fi l hm1] at hb;rintro (hs|hs)
       . rcases (fpnew l hm1 b hb).2 with hh|hh
         . have:=(h.sB b hs).1;omega
         exact h.bQ _ b hh hs
       exact hR.bQ _ b hb hs.1
     rw [fo l hm1] at hb;rintro (hs|hs)
     . exact h.bQ l b hb hs
     have:=(h.cu l b hb).1;omega
   . by_cases hm1:l∈keys m0
     . rw [fi l hm1] at hb;have:=fpnew l hm1 b hb;refine ⟨this.1,?_⟩;rcases this.2 with hh|hh
       . exact .inl (q18 h.size hh)
       exact (h.cu _ b hh).2
     rw [fo l hm1] at hb;have:=h.cu l b hb;exact ⟨q19 this.1 hR.size,this.2⟩
   . rcases hb with hs|hs
     . have:=h.sB b hs;exact ⟨q19 this.1 hR.size,this.2⟩
     exact ⟨(hR.sB b hs.1).1,.inl (q18 h.size hs.2)⟩
   refine (ja b (q19 hb h.size) λl hl hb'=> ?_).trans (h.base b hb hio);rcases (h.cu _ b hb').2 with hh|hh
   . omega
   exact hio _ hh.choose_spec.1
 refine hrv.mono (λ_ _=>rfl) hST (λl b sh af cs e _ hb=>⟨cs,e,hb,rfl⟩) λl af hl=> ?_;rw [hU] at hl;cases hl
def ck (L:lN):List (Nat × Nat)->Prop
 | []=>True
 |p::r=>p.1∈L/\ck L r
theorem Pd (L:lN):ck L []=True:=rfl
theorem LO (L:lN) (l v:Nat) (r:List (Nat × Nat)):ck L ((l,v)::r)=(l∈L/\ck L r):=rfl
theorem oY {L:lN}:∀{r:List (Nat × Nat)},ck L r->∀p,p∈r->p.1∈L
 | [],_,p,h=>by cases h
 |_::_,h,p,hp=>by
  rcases q11.1 hp with e|hp
  . subst e;exact h.1
  exact oY h.2 p hp
def XL (L:lN) (b:bc):Prop:=match b with
 | .box _ xs=>ck L (aq xs)
 |_=>True
theorem SB (L:lN) (v:Nat) (xs:lA):XL L (.box v xs)=ck L (aq xs):=rfl
theorem SC (L:lN) (v:Nat) (sh:Sh) (d:Bool) (xs:lA):XL L (.row v sh d xs)=True:=rfl
def okB (L:lN):Mem->Prop
 | []=>True
 |(l,b)::r=>(l∈L/\XL L b)/\okB L r
theorem SD (L:lN):okB L []=True:=rfl
theorem Pe (L:lN) (l:Nat) (b:bc) (r:Mem):okB L ((l,b)::r)=((l∈L/\XL L b)/\okB L r):=rfl
theorem tE {L:lN}:∀{m:Mem},okB L m->Wb L m
 | [],_=>⟨λl h=>absurd rfl h,λl v xs h=>by cases h⟩
 |(l,b)::r,⟨⟨h1,h2⟩,h3⟩=>by
  obtain ⟨g1,g2⟩:=tE h3;refine ⟨λl' h=> ?_,λl' v xs h=> ?_⟩
  . rw [aw] at h;split at h
    . rename_i e;subst e;exact h1
    exact g1 l' h
  rw [aw] at h;split at h
  . injection h with h
    subst h;exact oY h2
  exact g2 l' v xs h
def sy (m m':Mem):lN->Prop
 | []=>True
 |l::r=>ah m l=ah m' l/\sy m m' r
theorem LP (m m':Mem):sy m m' []=True:=rfl
theorem H5 (m m':Mem) (l:Nat) (r:lN):sy m m' (l::r)=(ah m l=ah m' l/\sy m m' r):=rfl
theorem mN {m m':Mem}:∀{L:lN},sy m m' L->∀l,l∈L->ah m l=ah m' l
 | [],_,l,h=>by cases h
 |_::_,⟨h1,h2⟩,l,h=>by
  rcases q11.1 h with rfl|h
  . exact h1
  exact mN h2 l h
theorem aM {L:lN} {m m':Mem} (h1:sy m' m L) (h2:okB L m'):oW L m m':=⟨mN h1,tE h2⟩
def Fl:lN->Prop
 | []=>True
 |l::r=>1000000000<=l/\Fl r
theorem Pf:Fl []=True:=rfl
theorem LQ (l:Nat) (r:lN):Fl (l::r)=(1000000000<=l/\Fl r):=rfl
theorem sA:∀{L:lN},Fl L->∀l,l∈L->bC<=l
 | [],_,l,h=>by cases h
 |_::_,⟨h1,h2⟩,l,h=>by
  rcases q11.1 h with rfl|h
  . exact h1
  exact sA h2 l h
theorem cX {P:Program} {f:FuncId} {m0:Mem} {xs xt:lA} {d:Nat} {post:AV->Mem->Prop} {m:Mem} {k:AV->Mem->Prop} {q:Pack k} (hH:fL P f m0 xs post)
 (hc:(Fl (keys m0)/\okB (keys m0) m0)/\sy m m0 (keys m0)/\ck (keys m0) (aq xs)) (hk:∀r m',post r m'->k r (m'++m)):eR P f d xs xt m k q:=
 .inl (fL.call hH (sA hc.1.1) (mN hc.2.1) (tE hc.1.2) (oY hc.2.2) hk).io
theorem jk (J:Nat) {P:Program} {f:FuncId} {m0:Mem} {xs xs0 xt:lA} {d:Nat} {post:AV->Mem->Prop} {m:Mem} {k:AV->Mem->Prop} {q:Pack k} (hH:fL P f m0 xs0 post)
 (hr:oS (e6 J [] m) m/\mF (e6 J [] m) xs=xs0)
 (hc:(Fl (keys m0)/\okB (keys m0) m0)/\sy (kN (e6 J [] m) m) m0 (keys m0)/\ck (keys m0) (aq xs0))
 (hk:∀r m',post r m'->k (so (e6 J [] m) r) (sn (e6 J [] m) (m'++kN (e6 J [] m) m))):eR P f d xs xt m k q:=
 .inl (oX.DL (e6 J [] m) hr.1 (by rw [hr.2];exact fL.call hH (sA hc.1.1) (mN hc.2.1) (tE hc.1.2) (oY hc.2.2) hk)).io
attribute [go_sem] keys_nil keys_cons Pd LO SB SC SD Pe LP H5 Pf LQ Pc
end Go.Vc
namespace Go.Vc
section
variable {P:Program} {B:eC} {N:Nat} {φ:Nat->LS} {fp:Nat->lN} {S:nP} {ts:Env} {m:Mem} {a:Act} {w:World}
def vi (l v:Nat) (sh:Sh) (ys:lA):lA->lA->Prop
 | [],[]=>True
 |x::xs,t::r=>((∃i n,x= .ref l v i n/\i+n<=ys.length/\t= .arr sh ((ys.drop i).take n))\/(ao x=[]/\aF x=false/\t=x))/\vi l v sh ys xs r
 |_,_=>False
theorem kx {l v:Nat} {sh:Sh} {ys xs r:lA} (i n:Nat) (h:i+n<=ys.length) (hr:vi l v sh ys xs r):vi l v sh ys (.ref l v i n::xs) (.arr sh ((ys.drop i).take n)::r):=⟨.inl ⟨i,n,rfl,h,rfl⟩,hr⟩
theorem oZ {l v:Nat} {sh:Sh} {ys xs r:lA} {x:AV} (h:ao x=[]) (h2:aF x=false) (hr:vi l v sh ys xs r):vi l v sh ys (x::xs) (x::r):=⟨.inr ⟨h,h2,rfl⟩,hr⟩
theorem LR {l v:Nat} {sh:Sh} {ys:lA}:vi l v sh ys [] []:=trivial
theorem jl {P:Program} {f:FuncId} {d:Nat} {xs trs xt:lA} {m:Mem} {k:AV->Mem->Prop} {q:Pack k} {post:AV->Prop} (l v:Nat) (sh:Sh) (dp:Bool) (ys:lA) (hfn:Fn P f trs false post) (hl:l<bC)
 (hm:ah m l=some (.row v sh dp ys)) (hx:vi l v sh ys xs trs) (hk:∀r,post r->k r ((l,.gone v)::m)):eR P f d xs xt m k q:=by
 refine .inl λB N φ fp S ts a w vs h hsz hrv hxl=>⟨hfn.1,?_⟩;have hf:=h.XK hl hm (v:=v) rfl
 have hlen:∀(xs trs:lA),vi l v sh ys xs trs->trs.length=xs.length/\∀i (h1:i<xs.length) (h2:i<trs.length),
  (∃j n,xs[i]= .ref l v j n/\j+n<=ys.length/\trs[i]= .arr sh ((ys.drop j).take n))\/(ao xs[i]=[]/\aF xs[i]=false/\trs[i]=xs[i]):=by
  intro xs;induction xs with
  |nil=>intro trs hx;cases trs with
   |nil=>exact ⟨rfl,λi h1=>absurd h1 (q20 _)⟩
   |cons=>exact hx.elim
  |cons x xs ih=>intro trs hx;cases trs with
   |nil=>exact hx.elim
   |cons t r=>
    obtain ⟨g1,g2⟩:=ih r hx.2;refine ⟨by simp [g1],λi h1 h2=> ?_⟩;cases i with
    |zero=>exact hx.1
    |succ i=>exact g2 i (by simpa using h1) (by simpa using h2)
 obtain ⟨hlen,YD⟩:=hlen xs trs hx;refine (hfn.2 w (λb=>S b\/b∈fp l) vs (λb hb=>(hf.sB b hb).1) hf.jv (hsz.trans hlen.symm) λi hi=> ?_).mono ?_
 . have hi2:i<xs.length:=(by omega);rcases YD i hi2 hi with ⟨j,n,e1,e2,e3⟩|⟨e1,e2,e3⟩
   . rw [e3];have:=hrv i hi2;rw [e1] at this;exact CJ h hl hm e2 this
   rw [e3];exact (cU (hrv i hi2) e1).mono (λ_ _=>rfl) λ_ h=>.inl h
 rintro e w' ⟨r,v',rfl,hr,hg,j8⟩;simp only [iO,q3,if_false] at j8;have hRS:=(hf.grown hg).hold (λb=>w.heap.size<=b/\b<w'.heap.size) (λb hb=>⟨hb.2,q18 hf.size hb.1,λk hk=>by have:=(hf.cu k b hk).1;omega⟩);exact ⟨v',rfl,_,_,_,ts,_,r,hRS,.rd _ _ j8,λk af hk=>(by rw [fU j8] at hk;cases hk),rfl,hk r hr⟩
def H6 (P:Program) (rs:List ResultVar) (post:AV->Prop):di
 | .normal=>λts m=>aN P (λxs=>iP (λys _=>aq ys=[]/\post (bE ys)) [] m xs) rs ts m []
 | .ret=>λts m=>aN P (λxs=>iP (λys _=>aq ys=[]/\post (bE ys)) [] m xs) rs ts m []
 |_=>λ_ _=>False
theorem Pg (P:Program) (rs:List ResultVar) (post:AV->Prop) (ts:Env) (m:Mem):H6 P rs post .ret ts m=aN P (λxs=>iP (λys _=>aq ys=[]/\post (bE ys)) [] m xs) rs ts m []:=rfl
theorem Fn.SE {P:Program} {f:FuncId} {fn:Func} {c:Code} {args:List AV} {post:AV→Prop} (hf:P.funcs[f]? =some fn) (hn:(fn.name== "runtime.NumGoroutine")=false) (hb:fn.body=some c)
 (hok:codeOk fn.ntmps c=true) (ha:args.length<=fn.ntmps) (hv:vc P fn.ntmps c (bF 0 args) [] (H6 P fn.results.toList post)):Fn P f args false post:=by
 refine ⟨⟨fn,c,hf,hn,hb⟩,λw S vs hS zq hsz hrd=> ?_⟩;refine calls_of_wp hf hb ?_;have hRS:RS ⟨w,λ_ _=>False,S,λ_=>.dead,[]⟩ fn.ntmps (λ_=>.dead) (λ_=>[]) S (bF 0 args) [] {tmps:=vs++q2 (fn.ntmps-vs.size) undef,defers:=[]} w:=by
  have l6:∀t,(look (bF 0 args) t= .undef\/∃h:t<args.length,look (bF 0 args) t=args[t]):=by
   intro t;rw [bG];by_cases h:t<args.length
   . exact .inr ⟨h,by simp [h]⟩
   exact .inl (by simp [h])
  refine {tm:=λt=> ?_,tl:=λt l af hl=> ?_,b_:=λ_ _=>⟨rfl,rfl⟩,aG:=λl k hk=>(by cases hk),bl:=λl v xs hk=>(by cases hk),ia:=λ_=>q16,
          fJ:=λ_ _ _ h=>(by cases h),bQ:=λ_ _ h=>(by cases h),cu:=λ_ _ h=>(by cases h),sB:=λb hb=>⟨hS b hb,.inr hb⟩,base:=λb hb _=>rfl,out:=a7.refl _,kq:=jH.refl _,kn:=λ_ _ _ hk=>hk,fix:=λ_ _ _ _=>LS.le_refl _ _,
          size:=q17 _,defers:=rfl,lq:=by simp;omega,jv:=zq}
  . rcases l6 t with e|⟨h,e⟩
    . rw [e];exact .rd _ _ (.undef _)
    rw [e];have h1:=hrd t h;have:vs.toList.getD t uD=(vs++q2 (fn.ntmps-vs.size) undef).getD t uD:=by have h2:t<vs.size:=(by omega);simp only [q0,q6,Array.getElem?_toList];rw [Array.getElem?_append_left h2]
    rw [←this];exact .rd _ _ h1
  rcases l6 t with e|⟨h,e⟩
  . rw [e] at hl;cases hl
  rw [e,fU (hrd t h)] at hl;cases hl
 have fS:∀a' w',ic ⟨w,λ_ _=>False,S,λ_=>.dead,[]⟩ fn.ntmps (λts m=>aN P (λxs=>iP (λys _=>aq ys=[]/\post (bE ys)) [] m xs) fn.results.toList ts m []) a' w'→
  a'.defers=[]/\∃v,(results fn a'.tmps).run P w'= .ok v w'/\∃r v',Ending.returned v= .returned v'/\post r/\Grown w w'/\iO w w' S false r v':=by
  rintro a' w' ⟨DJ,fp0,S0,ts',m0,h0,hk⟩;refine ⟨h0.defers,?_⟩;obtain ⟨ys0,us,h1,h2,h3,h4⟩:=cH h0 fn.results.toList [] [] ⟨rfl,λi hi=>absurd hi (q20 _)⟩ (λi hi=>absurd hi (q20 _)) hk;obtain ⟨φ',fp',S',m',ys,hgv,h3,hU,gO⟩:=pB ys0 us [] [] h0 (by simpa using h3) ⟨rfl,λi hi=>absurd hi (q20 _)⟩ h1;have h':=hgv.rs;obtain ⟨h3a,h3b⟩:=h3;simp only [q15] at h3a h3b;refine ⟨if h:us.toArray.size=1 then us.toArray[0] else .tuple us.toArray,?_,bE ys,_,rfl,gO,⟨h'.size,λb hb=>h'.base b hb (λ_ h=>h),h'.out⟩,?_⟩
  . have hm:results fn a'.tmps=(do let vs ←fn.results.mapM (cZ a'.tmps);pure (if h:vs.size=1 then vs[0] else .tuple vs)):=by
     unfold results;congr 1
    rw [hm,Sem.run_bind,Array.mapM_eq_mapM_toList];have:(List.toArray <$> fn.results.toList.mapM (cZ a'.tmps):Sem aV).run P w'= .ok us.toArray w':=by rw [map_eq_pure_bind,Sem.run_bind,h2];rfl
    rw [this];rfl
  show Rd w' _ _ _;refine (cU (mG h3a h3b) (im hU)).mono (λ_ _=>rfl) λb hb=> ?_;rcases (h'.sB b hb).2 with hh|hh
  . exact .inr ⟨hh,(h'.sB b hb).1⟩
  exact .inl hh
 refine wp_mono (cB c _ _ _ hok hv _ _ _ _ _ _ hRS) ?_;intro e a' w' hq;cases e with
 |normal=>exact fS a' w' hq
 |ret=>exact fS a' w' hq
 |_=>obtain ⟨_,_,_,_,_,_,hh⟩:=hq;exact hh.elim
theorem Fn.bY {P:Program} {f:FuncId} {fn:Func} {c:Code} {args:List AV} {post:AV→Prop} (N:Nat) (rs:List ResultVar) (hf:P.funcs[f]? =some fn) (hN:fn.ntmps=N:=by exact rfl) (hr:fn.results.toList=rs:=by exact rfl) (hn:(fn.name== "runtime.NumGoroutine")=false:=by exact rfl)
 (hb:fn.body=some c:=by exact rfl) (hok:codeOk N c=true:=by exact rfl) (ha:args.length<=N:=by exact oT rfl) (hv:vc P N c (bF 0 args) [] (H6 P rs post)):Fn P f args false post:=by
 subst hN;subst hr;exact Fn.SE hf hn hb hok ha hv
attribute [go_sem] Pg Ek Em AA xb
def TY:lA->AV
 | [x]=>.bo ⟨1,false⟩ [x] 0 0
 |xs=>.bo ⟨xs.length,true⟩ [.agg xs] 0 0
def BG (m:Mem):lA->lA->Prop
 | [],[]=>True
 | .ptr l v 0 0::r,y::ys=>(∃xs,ah m l=some (.box v xs)/\aq xs=[]/\(∀x,x∈xs->fits ⟨1,false⟩ x)/\xs≠[]/\y=TY xs)/\BG m r ys
 |_,_=>False
def H7 (P:Program) (rs:List ResultVar) (g:FuncId) (ys:lA):di
 | .normal=>λts m=>aN P (λxs=>∃ps,xs=[.cn g ps]/\BG m ps ys) rs ts m []
 | .ret=>λts m=>aN P (λxs=>∃ps,xs=[.cn g ps]/\BG m ps ys) rs ts m []
 |_=>λ_ _=>False
theorem H8 (P:Program) (rs:List ResultVar) (g:FuncId) (ys:lA) (ts:Env) (m:Mem):H7 P rs g ys .ret ts m=aN P (λxs=>∃ps,xs=[.cn g ps]/\BG m ps ys) rs ts m []:=rfl
attribute [go_sem] H8
theorem SF (h:RS B N φ fp S ts m a w) {l v:Nat} {xs:lA} {u:Value} (hb:ah m l=some (.box v xs)) (hl:aq xs=[]) (hf:∀x,x∈xs->fits ⟨1,false⟩ x) (hne:xs≠[]) (hu:RV w S φ (.ptr l v 0 0) u):
 Rd w (λb=>S b\/∃l,b∈fp l) (TY xs) u:=by
 obtain ⟨b,cs,e,sh,h1,h2,h3,h4,h5,h6⟩:=h.aG l _ hb;have hp:=jZ hu b sh h1;rw [Nat.zero_mul,q21] at hp;subst hp;have hbS:S b\/∃l,b∈fp l:=.inr ⟨l,by rw [h2];simp⟩;have hrd:∀i (hi:i<xs.length),Rd w (λb=>S b\/∃l,b∈fp l) xs[i] (cs.toList.getD i uD):=λi hi=>(cU (h6 i hi) (bM hl i hi)).mono (λ_ _=>rfl) λ_ h=>.inl h;match xs,hne,hf,h4,h5,hrd with
 | [x],_,hf,h4,h5,hrd=>
   refine .bo ⟨1,false⟩ [x] 0 0 b 0 cs _ _ hbS h3 (by simpa using h4) (λi hi=>hf _ (List.getElem_mem hi)) λi hi=> ?_;have:i=0:=(by simp at hi;omega);subst this;simpa [elemV] using hrd 0 (by simp)
 |x::y::r,_,hf,h4,h5,hrd=>
  have:=Rd.bo (w:=w) (S:=λb=>S b\/∃l,b∈fp l) ⟨(x::y::r).length,true⟩ [.agg (x::y::r)] 0 0 b 0 cs _ _ hbS h3 (by simpa using h4) (λi hi=>by
   have:i=0:=(by simp at hi;omega);subst this
   exact ⟨rfl,rfl⟩) (λi hi=>by
   have:i=0:=(by simp at hi;omega);subst this;simp only [elemV,if_true,Nat.zero_mul,q21,List.drop_zero,List.getElem_cons_zero];refine .agg _ _ (by simp at h4 ⊢;omega) h5 λi hi=> ?_;have:=hrd i hi;rw [q6] at this ⊢;rw [List.toList_toArray,List.getElem?_take,if_pos hi]
   exact this)
  rw [Nat.zero_mul] at this;exact this
theorem JL (h:RS B N φ fp S ts m a w):∀(ps ys:lA) (us:lV),us.length=ps.length->(∀i (hi:i<ps.length),RV w S φ ps[i] (us.getD i uD))->BG m ps ys->ys.length=ps.length/\∀i (hi:i<ys.length),Rd w (λb=>S b\/∃l,b∈fp l) ys[i] (us.getD i uD)
 | [],[],us,hl,_,_=>⟨rfl,λi hi=>absurd hi (q20 _)⟩
 | .ptr l v 0 0::r,y::ys,[],hl,_,_=>absurd hl (by simp)
 | .ptr l v 0 0::r,y::ys,u::us,hl,hp,hk=>by
   obtain ⟨⟨xs,h1,h2,h3,h4,rfl⟩,hk⟩:=hk;obtain ⟨g1,g2⟩:=JL h r ys us (by simpa using hl) (λi hi=>by have:=hp (i+1) (by simpa using hi);rwa [List.getElem_cons_succ,List.getD_cons_succ] at this) hk;refine ⟨by simp [g1],λi hi=> ?_⟩;cases i with
   |zero=>exact SF h h1 h2 h3 h4 (hp 0 (by simp))
   |succ i=>
    rw [List.getElem_cons_succ,List.getD_cons_succ];exact g2 i (by simpa using hi)
end
theorem Fn.LU {P:Program} {f:FuncId} {fn:Func} {c:Code} {args:List AV} {g:FuncId} {ys:List AV} (hf:P.funcs[f]? =some fn) (hn:(fn.name== "runtime.NumGoroutine")=false) (hb:fn.body=some c)
 (hok:codeOk fn.ntmps c=true) (ha:args.length<=fn.ntmps) (hv:vc P fn.ntmps c (bF 0 args) [] (H7 P fn.results.toList g ys)):Fn P f args false (λr=>r= .cn g ys):=by
 refine ⟨⟨fn,c,hf,hn,hb⟩,λw S vs hS zq hsz hrd=> ?_⟩;refine calls_of_wp hf hb ?_;have hRS:RS ⟨w,λ_ _=>False,S,λ_=>.dead,[]⟩ fn.ntmps (λ_=>.dead) (λ_=>[]) S (bF 0 args) [] {tmps:=vs++q2 (fn.ntmps-vs.size) undef,defers:=[]} w:=by
  have l6:∀t,(look (bF 0 args) t= .undef\/∃h:t<args.length,look (bF 0 args) t=args[t]):=by
   intro t;rw [bG];by_cases h:t<args.length
   . exact .inr ⟨h,by simp [h]⟩
   exact .inl (by simp [h])
  refine {tm:=λt=> ?_,tl:=λt l af hl=> ?_,b_:=λ_ _=>⟨rfl,rfl⟩,aG:=λl k hk=>(by cases hk),bl:=λl v xs hk=>(by cases hk),ia:=λ_=>q16,
          fJ:=λ_ _ _ h=>(by cases h),bQ:=λ_ _ h=>(by cases h),cu:=λ_ _ h=>(by cases h),sB:=λb hb=>⟨hS b hb,.inr hb⟩,base:=λb hb _=>rfl,out:=a7.refl _,kq:=jH.refl _,kn:=λ_ _ _ hk=>hk,fix:=λ_ _ _ _=>LS.le_refl _ _,
          size:=q17 _,defers:=rfl,lq:=by simp;omega,jv:=zq}
  . rcases l6 t with e|⟨h,e⟩
    . rw [e];exact .rd _ _ (.undef _)
    rw [e];have h1:=hrd t h;have:vs.toList.getD t uD=(vs++q2 (fn.ntmps-vs.size) undef).getD t uD:=by have h2:t<vs.size:=(by omega);simp only [q0,q6,Array.getElem?_toList];rw [Array.getElem?_append_left h2]
    rw [←this];exact .rd _ _ h1
  rcases l6 t with e|⟨h,e⟩
  . rw [e] at hl;cases hl
  rw [e,fU (hrd t h)] at hl;cases hl
 have fS:∀a' w',ic ⟨w,λ_ _=>False,S,λ_=>.dead,[]⟩ fn.ntmps (λts m=>aN P (λxs=>∃ps,xs=[.cn g ps]/\BG m ps ys) fn.results.toList ts m []) a' w'→
  a'.defers=[]/\∃v,(results fn a'.tmps).run P w'= .ok v w'/\∃r v',Ending.returned v= .returned v'/\r=AV.cn g ys/\Grown w w'/\iO w w' S false r v':=by
  rintro a' w' ⟨DJ,fp0,S0,ts',m0,h1,hk⟩;refine ⟨h1.defers,?_⟩;obtain ⟨zs,us,⟨ps,rfl,b9⟩,h2,h3,h4⟩:=cH h1 fn.results.toList [] [] ⟨rfl,λi hi=>absurd hi (q20 _)⟩ (λi hi=>absurd hi (q20 _)) hk;obtain ⟨h3a,h3b⟩:=h3;simp only [q15] at h3a h3b;obtain ⟨u,rfl⟩:∃u,us=[u]:=List.length_eq_one_iff.1 h3a;have hu:RV w' S0 DJ (.cn g ps) u:=h3b 0 (by simp);refine ⟨u,?_,_,u,rfl,rfl,⟨h1.size,λb hb=>h1.base b hb (λ_ h=>h),h1.out⟩,?_⟩
  . have hm:results fn a'.tmps=(do let vs ←fn.results.mapM (cZ a'.tmps);pure (if h:vs.size=1 then vs[0] else .tuple vs)):=by
     unfold results;congr 1
    rw [hm,Sem.run_bind,Array.mapM_eq_mapM_toList];have:(List.toArray <$> fn.results.toList.mapM (cZ a'.tmps):Sem aV).run P w'= .ok #[u] w':=by rw [map_eq_pure_bind,Sem.run_bind,h2];rfl
    rw [this];rfl
  obtain ⟨cs,rfl,hcs,hcv⟩:∃cs:aV,u= .func (.func g) #[] cs/\cs.size=ps.length/\∀i (hi:i<ps.length),RV w' S0 DJ ps[i] (cs.toList.getD i uD):=by
   cases hu with
   |rd _ _ h=>cases h with|cn _ _ cs q1 q2=>exact ⟨cs,rfl,q1,λi hi=>.rd _ _ (q2 i hi)⟩
   |cn _ _ cs q1 q2=>exact ⟨cs,rfl,q1,q2⟩
  obtain ⟨g1,g2⟩:=JL h1 ps ys cs.toList (by simpa using hcs) hcv b9;show Rd _ _ _ _;refine .cn g ys cs (by omega) λi hi=>(g2 i hi).mono (λ_ _=>rfl) λb hb=> ?_;rcases hb with hb|⟨l,hb⟩
  . rcases (h1.sB b hb).2 with hh|hh
    . exact .inr ⟨hh,(h1.sB b hb).1⟩
    exact .inl hh
  rcases (h1.cu l b hb).2 with hh|⟨_,hh,_⟩
  . exact .inr ⟨hh,(h1.cu l b hb).1⟩
  exact hh.elim
 refine wp_mono (cB c _ _ _ hok hv _ _ _ _ _ _ hRS) ?_;intro e a' w' hq;cases e with
 |normal=>exact fS a' w' hq
 |ret=>exact fS a' w' hq
 |_=>obtain ⟨_,_,_,_,_,_,hh⟩:=hq;exact hh.elim
theorem Fn.Ph {P:Program} {f:FuncId} {fn:Func} {c:Code} {args:List AV} {g:FuncId} {ys:List AV} (N:Nat) (rs:List ResultVar) (hf:P.funcs[f]? =some fn) (hN:fn.ntmps=N:=by exact rfl) (hr:fn.results.toList=rs:=by exact rfl) (hn:(fn.name== "runtime.NumGoroutine")=false:=by exact rfl)
 (hb:fn.body=some c:=by exact rfl) (hok:codeOk N c=true:=by exact rfl) (ha:args.length<=N:=by exact oT rfl) (hv:vc P N c (bF 0 args) [] (H7 P rs g ys)):Fn P f args false (λr=>r= .cn g ys):=by
 subst hN;subst hr;exact Fn.LU hf hn hb hok ha hv
def qQ (w w':World) (S:nP) (sh:Sh) (zs:lA) (v:Value):Prop:=
 (zs=[]/\∃ad,v= .slice ad 0 0)\/∃b cap,v= .slice (some ⟨b,0,none⟩) zs.length cap/\w.heap.size<=b/\Own w' (λc=>S c\/(w.heap.size<=c/\c<w'.heap.size/\c≠b)) (.arr sh zs) v [b]
def n8 (P:Program) (f:FuncId) (args:lA) (sh:Sh) (zs:lA):Prop:=
 Enters P f/\∀(w:World) (S:nP) (vs:aV),(∀b,S b->b<w.heap.size)->Kh w S->vs.size=args.length->(∀i (h:i<args.length),Rd w S args[i] (vs.toList.getD i uD))→
  Calls P f vs w λe w'=>∃v,e= .returned v/\Grown w w'/\qQ w w' S sh zs v
def C2 (sh:Sh) (zs:lA) (m:Mem) (xs:lA):Prop:=
 (zs=[]/\xs=[.val (.slice none 0 0)])\/∃l v,xs=[.ref l v 0 zs.length]/\(ah m l=some (.row v sh false zs)\/(zs=[]/\ah m l=some (.row v sh true [])))
def H9 (P:Program) (rs:List ResultVar) (sh:Sh) (zs:lA):di
 | .normal=>λts m=>aN P (λxs=>C2 sh zs m xs) rs ts m []
 | .ret=>λts m=>aN P (λxs=>C2 sh zs m xs) rs ts m []
 |_=>λ_ _=>False
theorem H_ (P:Program) (rs:List ResultVar) (sh:Sh) (zs:lA) (ts:Env) (m:Mem):H9 P rs sh zs .ret ts m=aN P (λxs=>C2 sh zs m xs) rs ts m []:=rfl
attribute [go_sem] H_
theorem row_one {w:World} {S:nP} {φ:Nat->LS} {l v:Nat} {sh:Sh} {deep:Bool} {fs:lN} {zs:lA} {u:Value} (h0:0<sh.sz) (hb:BR w S φ l fs (.row v sh deep zs)) (hd:deep=true->zs=[]) (hu:RV w S φ (.ref l v 0 zs.length) u):
 (zs=[]/\∃ad,u= .slice ad 0 0)\/∃b cap,u= .slice (some ⟨b,0,none⟩) zs.length cap/\fs=[b]/\Own w S (.arr sh zs) u [b]:=by
 have hr:=dq hu;rcases hb with ⟨h1,h2,h3⟩|⟨b,cap,hφ,hbm,hdp,a_⟩
 . exact .inl ⟨h2,(hr.2 h1).2⟩
 obtain ⟨ad,cp,rfl,hnc,hcp⟩:=hr.1 b sh hφ;obtain ⟨cs,e,fss,hgf,aD,hcs,b9,hmx,hff,hfl,hvv⟩:=gG a_ hbm;rcases hcp with rfl|⟨rfl,cs',e',g1,g2⟩
 . have hz:zs=[]:=q5 (by omega);subst hz;exact .inl ⟨rfl,_,rfl⟩
 obtain rfl:=dh (aD.symm.trans g1);have hcc:cap=cp:=Nat.eq_of_mul_eq_mul_right h0 (by rw [←hcs,g2,q21]);subst hcc;have hfs:fs=[b]:=by
  cases deep with
  |false=>exact hdp rfl
  |true=>
   have hz:=hd rfl;subst hz;have:fss=[]:=q5 (by simpa using hfl);rw [hgf,this];rfl
 refine .inr ⟨b,cap,by rw [Nat.zero_mul],hfs,?_⟩;subst hfs;have ho:Own w S (.arr sh zs) (.slice (some ⟨b,0,none⟩) zs.length cap) [b]:=by
  cases deep with
  |false=>exact a_
  |true=>exact a_.mono (λ_ h=>h.elim) (λ_ h=>h.elim) λ_ _=>rfl
 simpa using ho
theorem n8.np {P:Program} {f:FuncId} {fn:Func} {c:Code} {args:List AV} {sh:Sh} {zs:List AV} (h0:0<sh.sz) (hf:P.funcs[f]? =some fn) (hn:(fn.name== "runtime.NumGoroutine")=false) (hb:fn.body=some c)
 (hok:codeOk fn.ntmps c=true) (ha:args.length<=fn.ntmps) (hr1:fn.results.toList.length=1) (hv:vc P fn.ntmps c (bF 0 args) [] (H9 P fn.results.toList sh zs)):n8 P f args sh zs:=by
 refine ⟨⟨fn,c,hf,hn,hb⟩,λw S vs hS zq hsz hrd=> ?_⟩;refine calls_of_wp hf hb ?_;have hRS:RS ⟨w,λ_ _=>False,S,λ_=>.dead,[]⟩ fn.ntmps (λ_=>.dead) (λ_=>[]) S (bF 0 args) [] {tmps:=vs++q2 (fn.ntmps-vs.size) undef,defers:=[]} w:=by
  have l6:∀t,(look (bF 0 args) t= .undef\/∃h:t<args.length,look (bF 0 args) t=args[t]):=by
   intro t;rw [bG];by_cases h:t<args.length
   . exact .inr ⟨h,by simp [h]⟩
   exact .inl (by simp [h])
  refine {tm:=λt=> ?_,tl:=λt l af hl=> ?_,b_:=λ_ _=>⟨rfl,rfl⟩,aG:=λl k hk=>(by cases hk),bl:=λl v xs hk=>(by cases hk),ia:=λ_=>q16,
          fJ:=λ_ _ _ h=>(by cases h),bQ:=λ_ _ h=>(by cases h),cu:=λ_ _ h=>(by cases h),sB:=λb hb=>⟨hS b hb,.inr hb⟩,base:=λb hb _=>rfl,out:=a7.refl _,kq:=jH.refl _,kn:=λ_ _ _ hk=>hk,fix:=λ_ _ _ _=>LS.le_refl _ _,
          size:=q17 _,defers:=rfl,lq:=by simp;omega,jv:=zq}
  . rcases l6 t with e|⟨h,e⟩
    . rw [e];exact .rd _ _ (.undef _)
    rw [e];have h1:=hrd t h;have:vs.toList.getD t uD=(vs++q2 (fn.ntmps-vs.size) undef).getD t uD:=by have h2:t<vs.size:=(by omega);simp only [q0,q6,Array.getElem?_toList];rw [Array.getElem?_append_left h2]
    rw [←this];exact .rd _ _ h1
  rcases l6 t with e|⟨h,e⟩
  . rw [e] at hl;cases hl
  rw [e,fU (hrd t h)] at hl;cases hl
 have fS:∀a' w',ic ⟨w,λ_ _=>False,S,λ_=>.dead,[]⟩ fn.ntmps (λts m=>aN P (λxs=>C2 sh zs m xs) fn.results.toList ts m []) a' w'→
  a'.defers=[]/\∃v,(results fn a'.tmps).run P w'= .ok v w'/\∃v',Ending.returned v= .returned v'/\Grown w w'/\qQ w w' S sh zs v':=by
  rintro a' w' ⟨DJ,fp0,S0,ts',m0,h1,hk⟩;refine ⟨h1.defers,?_⟩;obtain ⟨ys,us,hq,h2,h3,h4⟩:=cH h1 fn.results.toList [] [] ⟨rfl,λi hi=>absurd hi (q20 _)⟩ (λi hi=>absurd hi (q20 _)) hk;obtain ⟨h3a,h3b⟩:=h3;simp only [q15] at h3a h3b;have hy1:ys.length=1:=by rcases hq with ⟨_,rfl⟩|⟨l,v,rfl,_⟩<;>rfl
  obtain ⟨u,rfl⟩:∃u,us=[u]:=List.length_eq_one_iff.1 (h3a.trans hy1);have hu:=h3b 0 (by omega);refine ⟨u,?_,u,rfl,⟨h1.size,λb hb=>h1.base b hb (λ_ h=>h),h1.out⟩,?_⟩
  . have hm:results fn a'.tmps=(do let vs ←fn.results.mapM (cZ a'.tmps);pure (if h:vs.size=1 then vs[0] else .tuple vs)):=by
     unfold results;congr 1
    rw [hm,Sem.run_bind,Array.mapM_eq_mapM_toList];have:(List.toArray <$> fn.results.toList.mapM (cZ a'.tmps):Sem aV).run P w'= .ok #[u] w':=by rw [map_eq_pure_bind,Sem.run_bind,h2];rfl
    rw [this];rfl
  rcases hq with ⟨hz,rfl⟩|⟨l,v,rfl,hl⟩
  . have hu:RV w' S0 DJ (.val (.slice none 0 0)) u:=hu;obtain ⟨rfl,_⟩:=aR hu;exact .inl ⟨hz,_,rfl⟩
  have hu:RV w' S0 DJ (.ref l v 0 zs.length) u:=hu;have key:∀deep,ah m0 l=some (.row v sh deep zs)->(deep=true->zs=[])->qQ w w' S sh zs u:=by
   intro deep hlk hd;rcases row_one h0 (h1.aG l _ hlk) hd hu with ⟨hz,hn⟩|⟨b,cap,rfl,hfs,ho⟩
   . exact .inl ⟨hz,hn⟩
   have hbf:b∈fp0 l:=(by rw [hfs];simp);refine .inr ⟨b,cap,rfl,?_,ho.mono (λ_ _=>rfl) (λc hc=> ?_) λ_ _=>rfl⟩
   . rcases (h1.cu l b hbf).2 with hh|⟨_,hh,_⟩
     . exact hh
     exact hh.elim
   rcases (h1.sB c hc).2 with hh|hh
   . exact .inr ⟨hh,(h1.sB c hc).1,λe=>h1.bQ l b hbf (e▸hc)⟩
   exact .inl hh
  rcases hl with hl|⟨hz,hl⟩
  . exact key false hl (λh=>by cases h)
  exact key true (by rw [hz];exact hl) (λ_=>hz)
 refine wp_mono (cB c _ _ _ hok hv _ _ _ _ _ _ hRS) ?_;intro e a' w' hq;cases e with
 |normal=>exact fS a' w' hq
 |ret=>exact fS a' w' hq
 |_=>obtain ⟨_,_,_,_,_,_,hh⟩:=hq;exact hh.elim
theorem n8.cW {P:Program} {f:FuncId} {fn:Func} {c:Code} {args:List AV} {sh:Sh} {zs:List AV} (N:Nat) (rs:List ResultVar) (hf:P.funcs[f]? =some fn) (hN:fn.ntmps=N:=by exact rfl) (hr:fn.results.toList=rs:=by exact rfl) (hn:(fn.name== "runtime.NumGoroutine")=false:=by exact rfl)
 (hb:fn.body=some c:=by exact rfl) (hok:(codeOk N c&&(decide (0<sh.sz)&&decide (rs.length=1)))=true:=by exact rfl) (ha:args.length<=N:=by exact oT rfl) (hv:vc P N c (bF 0 args) [] (H9 P rs sh zs)):n8 P f args sh zs:=by
 simp only [Bool.and_eq_true,decide_eq_true_eq] at hok;subst hN;subst hr;exact n8.np hok.2.1 hf hn hb hok.1 ha hok.2.2 hv
theorem n8.io {P:Program} {f:FuncId} {xs:lA} {sh:Sh} {zs:lA} (h0:0<sh.sz) (h:n8 P f xs sh zs) (hl:aq xs=[]) (l:Nat) (hio:l<bC) {m:Mem} {k:AV->Mem->Prop}
 (hk:k (.ref l (aA m l) 0 zs.length) ((l,.row (aA m l) sh false zs)::m)):h_ P f xs m k:=by
 intro B N φ fp S ts a w vs hR hsz hx hxl;refine ⟨h.1,(h.2 w S vs (λb hb=>(hR.sB b hb).1) hR.jv hsz λi hi=>cU (hx i hi) (bM hl i hi)).mono ?_⟩;rintro e w' ⟨v,rfl,hg,j8⟩;refine ⟨v,rfl,?_⟩;have hR1:=hR.grown hg;have fI:∀af,known m l af->af<aA m l:=by rintro af ⟨k0,h1,h2⟩;unfold aA;rw [h1];exact Nat.lt_succ_of_le h2
 have hkn:known ((l,.row (aA m l) sh false zs)::m) l (aA m l):=⟨_,by rw [aw,if_pos rfl],q17 _⟩;rcases j8 with ⟨rfl,ad,rfl⟩|⟨b,cap,rfl,hb,a_⟩
 . have hR2:=hR1.next l (.nil (aA m l)) [] S (.row (aA m l) sh false []) (q17 _) (a7.refl _) (jH.refl _) (λ_ _ _=>rfl) (λc hc=>⟨hc,rfl⟩) (λc h1 h2=>absurd h1 h2) (λl b sh af cs e _ hb=>⟨cs,e,hb,rfl⟩)
    (λ_ _ _ _=>rfl) (λaf hk=>⟨λ_ _ e=>(by cases e),λe=>by cases e;exact absurd (fI _ hk) (Nat.lt_irrefl _)⟩) (λaf hk=>Nat.le_of_lt (fI af hk)) (.inl ⟨by rw [aB],rfl,rfl⟩) (λ_ _ hk=>by cases hk) q16 (λc hc=>by cases hc)
   exact ⟨_,_,_,_,_,_,hR2,.ref l _ 0 0 _ (λb sh e=>by rw [aB] at e;cases e) (λ_=>⟨rfl,ad,rfl⟩) rfl,λl' af hl'=>by simp only [ao,List.mem_singleton,Prod.mk.injEq] at hl';obtain ⟨rfl,rfl⟩:=hl';exact hkn,rfl,hk⟩
 obtain ⟨cs,e,fss,hgf,aD,hcs,b9,hmx,hff,hfl,hvv⟩:=gG a_ (by simp);have hbw:b<w'.heap.size:=(q1.1 aD).1
 have hR2:=hR1.next l (.at b sh (aA m l)) [b] (λc=>S c\/(w.heap.size<=c/\c<w'.heap.size/\c≠b)) (.row (aA m l) sh false zs) (q17 _) (a7.refl _) (jH.refl _) (λ_ _ _=>rfl) (λc hc=>⟨.inl hc,rfl⟩)
  (λc h1 h2=>by
    rcases h1 with h1|⟨h1,h3,h4⟩
    . exact absurd h1 h2
    exact ⟨h3,.inl (q18 hR.size h1),λl' _ hc=>by have:=(hR.cu l' c hc).1;omega⟩)
  (λl b sh af cs e _ hb=>⟨cs,e,hb,rfl⟩) (λ_ _ _ _=>rfl)
  (λaf hk=>LS.kD _ _ _ _ _ (fI af hk)) (λaf hk=>Nat.le_of_lt (fI af hk))
  (.inr ⟨b,cap,by rw [aB],by simp,λ_=>rfl,a_⟩) (λ_ _ hk=>by cases hk) (by simp)
  (λc hc=>by
    rw [List.mem_singleton] at hc;subst hc;refine ⟨?_,λl' _ hc=> ?_,hbw,.inl (q18 hR.size hb)⟩
    . rintro (h1|⟨_,_,h1⟩)
      . have:=(hR.sB c h1).1;omega
      exact h1 rfl
    have:=(hR.cu l' c hc).1;omega)
 refine ⟨_,_,_,_,_,_,hR2,.ref l _ 0 _ _ (λb' sh' e'=> ?_) (λe'=>by rw [aB] at e';cases e') rfl,λl' af hl'=>by simp only [ao,List.mem_singleton,Prod.mk.injEq] at hl';obtain ⟨rfl,rfl⟩:=hl';exact hkn,rfl,hk⟩;rw [aB] at e';cases e';exact ⟨_,cap,rfl,b9,.inr ⟨by rw [Nat.zero_mul],cs,e,aD,by rw [hcs,q21]⟩⟩
theorem kQ {P:Program} {f:FuncId} {d:Nat} {xs ts:lA} {m:Mem} {k:AV->Mem->Prop} {q:Pack k} {sh:Sh} {zs:lA} (h:n8 P f xs sh zs) (h0:0<sh.sz) (hl:aq xs=[]) (hio:1000*(d+1)<bC)
 (hk:k (.ref (1000*(d+1)) (aA m (1000*(d+1))) 0 zs.length) ((1000*(d+1),.row (aA m (1000*(d+1))) sh false zs)::m)):ij P f d xs ts m k q:=by
 refine .inr (.inr ⟨.ref (1000*(d+1)) (aA m (1000*(d+1))) 0 zs.length,[(1000*(d+1),.row (aA m (1000*(d+1))) sh false zs)],hk,λm' _ hm' k' hk'=> ?_⟩);have e:aA m' (1000*(d+1))=aA m (1000*(d+1)):=by unfold aA;rw [hm' (1000*(d+1)) (by show ah [_] _≠none;rw [aw,if_pos rfl];exact λe=>by cases e)]
 exact h.io h0 hl _ hio (by rw [e];exact hk')
theorem pD.row {P:Program} {f:FuncId} (v:Nat) (xs ys:lA) (hlen:ys.length=xs.length) (s5:bk xs=true) (hfy:∀i (h:i<ys.length),fits ⟨1,false⟩ ys[i]) (hE:Enters P f)
 (hc:∀(w:World) (b cap:Nat) (cs:aV) (e:El),w.heap[b]? =some (eA cs e)->cs.size=cap->xs.length<=cap->(∀i (h:i<xs.length),Rd w (λ_=>False) xs[i] (cs.toList.getD i uD))→
   Calls P f #[.slice (some ⟨b,0,none⟩) xs.length cap] w λe' w'=>e'= .returned (.tuple #[])/\∃cs':aV,cs'.size=cs.size/\(∀i (h:i<ys.length),Rd w' (λ_=>False) ys[i] (cs'.toList.getD i uD))∧
    w'.heap[b]? =some (eA cs' e)/\(∀c:Nat,c≠b->c<w.heap.size->w'.heap[c]? =w.heap[c]?)/\w.heap.size<=w'.heap.size/\a7 w w')
 (h0:xs=[]->∀(a:Option Addr) (w:World),Calls P f #[.slice a 0 0] w λe' w'=>e'= .returned (.tuple #[])/\Grown w w'):
 pD P f [.row v ⟨1,false⟩ true xs] [.ref 1000000000 v 0 xs.length] (λr io=>r= .aX []/\io=[.row v ⟨1,false⟩ true ys]):=by
 refine ⟨hE,λw φ fp S vs hsz hR=> ?_⟩;have hv0:=hR.tm 0;have hlk:ah (mg 0 [bc.row v ⟨1,false⟩ true xs]) bC=some (.row v ⟨1,false⟩ true xs):=rfl;obtain ⟨u,rfl⟩:∃u,vs= #[u]:=by have:vs.size=1:=hsz;exact ⟨vs[0],by apply Array.ext<;>simp_all⟩
 have hx:RV w S φ (.ref 1000000000 v 0 xs.length) u:=hv0;obtain ⟨r1,r2⟩:=dq hx
 have fin:∀(w':World) (fp':Nat->lN) (k:bc),k= .row v ⟨1,false⟩ true ys->RS (Hr w φ fp S [.row v ⟨1,false⟩ true xs]) (#[u]:aV).size φ fp' S (bF 0 [.ref 1000000000 v 0 xs.length]) ((bC,k)::mg 0 [.row v ⟨1,false⟩ true xs]) {tmps:= #[u],defers:=[]} w'→
  ∃r v' io' φ' fp' S' m',Ending.returned (Value.tuple #[])= .returned v'/\(r= .aX []/\io'=[bc.row v ⟨1,false⟩ true ys])/\RS (Hr w φ fp S [.row v ⟨1,false⟩ true xs]) 0 φ' fp' S' [] m' {tmps:= #[],defers:=[]} w'/\KW [.row v ⟨1,false⟩ true xs] io' m'∧
   ∃fs,Own w' (λ_=>False) r v' fs/\fs.Nodup/\∀b,b∈fs->w.heap.size<=b/\¬S' b/\∀l,bC<=l->b∉fp' l:=by
  rintro w' fp' k rfl h;refine ⟨.aX [],.tuple #[],_,φ,fp',S,_,rfl,⟨rfl,rfl⟩,{h with tm:=λt=>by rw [look_nil];exact .rd _ _ (.undef _),tl:=λt l af hl=>(by rw [look_nil] at hl;cases hl),defers:=rfl,lq:=rfl},⟨rfl,λj hj hj'=> ?_⟩,[],.rd _ _ (.aX [] #[] rfl λi hi=>absurd hi (q20 _)),q16,λb hb=>by cases hb⟩;have:j=0:=by simpa using hj
  subst this;exact ⟨by simp [aw],rfl,trivial⟩
 have nilCase:xs=[]->(∃a,u= .slice a 0 0)->Calls P f #[u] w λe' w'=>∃r v' io' φ' fp' S' m',e'= .returned v'/\(r= .aX []/\io'=[bc.row v ⟨1,false⟩ true ys])/\RS (Hr w φ fp S [.row v ⟨1,false⟩ true xs]) 0 φ' fp' S' [] m' {tmps:= #[],defers:=[]} w'/\KW [.row v ⟨1,false⟩ true xs] io' m'∧
       ∃fs,Own w' (λ_=>False) r v' fs/\fs.Nodup/\∀b,b∈fs->w.heap.size<=b/\¬S' b/\∀l,bC<=l->b∉fp' l:=by
  rintro h1 ⟨a,rfl⟩;have hy:ys=[]:=q5 (by rw [hlen,h1];rfl);refine (h0 h1 a w).mono ?_;rintro e' w' ⟨rfl,hg⟩;have hR2:=hR.grown hg;refine fin w' fp (.row v ⟨1,false⟩ true ys) rfl ?_;have e1:ah (mg 0 [bc.row v ⟨1,false⟩ true xs])=ah ((bC,.row v ⟨1,false⟩ true ys)::mg 0 [.row v ⟨1,false⟩ true xs]):=by
   funext l;rw [aw];split
   . rename_i e;subst e;rw [hlk,h1,hy]
   rfl
  have kn:∀l af,known (mg 0 [bc.row v ⟨1,false⟩ true xs]) l af->known ((bC,.row v ⟨1,false⟩ true ys)::mg 0 [.row v ⟨1,false⟩ true xs]) l af:=by rintro l af ⟨k',q1,q2⟩;exact ⟨k',by rw [←e1];exact q1,q2⟩
  exact {hR2 with tl:=λt l af hl=>kn l af (hR2.tl t l af hl),b_:=λl hl=>hR2.b_ l (by rw [e1];exact hl),aG:=λl k hk=>hR2.aG l k (by rw [e1];exact hk),bl:=λl v xs hb l' af hl=>kn l' af (hR2.bl l v xs (by rw [e1];exact hb) l' af hl),kn:=λl af h1 h2=>kn l af (hR2.kn l af h1 h2)}
 rcases hR.aG bC _ hlk with ⟨hφ,hxs,_⟩|⟨b,cap,hφ,hbm,_,a_⟩
 . exact nilCase hxs (r2 hφ).2
 simp only [if_true] at a_;obtain ⟨a,cap',rfl,hn,hcp⟩:=r1 b _ hφ;rcases hcp with rfl|⟨rfl,cs0,e0,hh0,hs0⟩
 . have hx0:xs=[]:=q5 (by omega);exact nilCase hx0 ⟨a,by rw [hx0];rfl⟩
 rcases ke a_ with ⟨hx0,hf0,_⟩|⟨b',cap2,cs,e,fss,q1,hgf,aD,hcs,b9,hmx,hff,hfl,hvv⟩
 . rw [hf0] at hbm;cases hbm
 simp only [Value.slice.injEq,Option.some.injEq,Addr.mk.injEq] at q1;obtain ⟨⟨rfl,_⟩,_,rfl⟩:=q1;rw [aD] at hh0;simp only [Option.some.injEq,Obj.cells.injEq] at hh0;obtain ⟨rfl, -, -⟩:=hh0;simp only [Nat.mul_one,q21] at hs0 hcs;have hfe:∀i (h:i<xs.length),Rd w (λ_=>False) xs[i] (cs.toList.getD i uD)/\fss.getD i []=[]:=by intro i hi;have:=fy (S':=λ_=>False) (hvv i hi) (jJ s5 i hi);rw [ba,Nat.mul_one] at this;exact this
 have hfs:fss.flatten=[]:=List.flatten_eq_nil_iff.2 λl hl=>by
  obtain ⟨i,hi,rfl⟩:=q10 hl;have:=(hfe i (hfl▸hi)).2
  rwa [q6,q7 hi] at this
 rw [hfs] at hgf;refine (hc w b cap' cs e aD hs0 hn λi hi=>(hfe i hi).1).mono ?_;rintro e' w' ⟨rfl,cs',hs',hr',hb',we,og,zW⟩;have hbl:=(hR.cu bC b (by rw [hgf];simp)).1;have hnx:=hR.next (w':=w') bC (φ bC) (fp bC) S (.row v ⟨1,false⟩ true ys) og zW ?_ ?_ ?_ (λc h1 h2=>absurd h1 h2) ?_ ?_ (λaf _=>LS.le_refl _ _) ?_ ?_ (λ_ _ hk=>by cases hk) (hR.ia bC) ?_
 . have e1:nU φ bC (φ bC)=φ:=(by funext l;by_cases e:l=bC<;>simp [nU,e]);rw [e1] at hnx;exact fin w' _ _ rfl hnx
 . intro c cs2 e2 hc2;by_cases ec:c=b
   . subst ec;obtain rfl:=dh (aD.symm.trans hc2);exact ⟨cs',e,hb',hs'⟩
   exact ⟨cs2,e2,by rw [we c ec (q1.1 hc2).1];exact hc2,rfl⟩
 . intro c hcl hio;exact we c (λec=>hio bC (by subst ec;show c∈fp bC;rw [hgf];simp)) hcl
 . intro c hcS;exact ⟨hcS,we c (λec=>hR.bQ bC b (by rw [hgf];simp) (ec▸hcS)) (hR.sB c hcS).1⟩
 . intro l c sh af cs2 e2 _ hc2;by_cases ec:c=b
   . subst ec;obtain rfl:=dh (aD.symm.trans hc2);exact ⟨cs',e,hb',hs'⟩
   exact ⟨cs2,e2,by rw [we c ec (q1.1 hc2).1];exact hc2,rfl⟩
 . intro l' hl' c hcl;exact we c (λec=>hl' (hR.fJ l' bC c hcl (by rw [ec,hgf];simp))) (hR.cu l' c hcl).1
 . rintro af ⟨k',q1,q2⟩;rw [hlk] at q1;cases q1;exact q2
 . refine .inr ⟨b,cap,by rw [aB];exact hφ,by rw [hgf];simp,λh=>(by cases h),?_⟩;rw [hgf];have e2:[b]=b::(List.replicate ys.length ([]:lN)).flatten:=by
    congr 1;exact (List.flatten_eq_nil_iff.2 λl hl=>(List.mem_replicate.1 hl).2).symm
   show Own w' (λ_=>False) _ _ [b];rw [e2];refine .arr ⟨1,false⟩ ys b cap cs' e _ hb' (by rw [hs',hcs];simp) (by omega) hmx hfy (by simp) λi hi=> ?_;have e3:(List.replicate ys.length ([]:lN)).getD i []=[]:=(by simp [q6,hi]);rw [e3,ba,Nat.mul_one];exact .rd _ _ (hr' i hi)
 intro c hc2;have:=hR.cu bC c hc2;exact ⟨hR.bQ bC c hc2,λl' hl' hc'=>hl' (hR.fJ l' bC c hc' hc2),q19 this.1 og,this.2⟩
open Go.Sort
theorem yl:∀zs:lI,bk (zs.map λn=>AV.val (.int .i64 n))=true
 | []=>rfl
 |_::r=>by rw [List.map_cons,mX,yl r];rfl
theorem Fm {w:World} {b:Nat} {cs:aV} {e:El} {zs:lI} (hb:w.heap[b]? =some (eA cs e)) (b9:zs.length<=cs.size)
 (hrd:∀i (h:i<(zs.map λn=>AV.val (.int .i64 n)).length),Rd w (λ_=>False) (zs.map λn=>AV.val (.int .i64 n))[i] (cs.toList.getD i uD)):Holds (Value.int .i64) w b 0 zs.toArray:=by
 intro j hj;have hj':j<zs.length:=by simpa using hj
 have h1:=hrd j (by simpa using hj');rw [List.getElem_map] at h1;have h2:cs.toList.getD j uD= .int .i64 zs[j]:=by generalize cs.toList.getD j uD=u at h1;cases h1;rfl
 have h3:j<cs.size:=by omega
 have h5:cs[j]? =some (.int .i64 zs[j]):=by rw [q6,Array.getElem?_toList,Array.getElem?_eq_getElem h3] at h2;rw [Array.getElem?_eq_getElem h3];exact congrArg some h2
 have h6:zs.toArray[j]! =zs[j]:=by rw [getElem!_pos zs.toArray j hj];simp
 refine ⟨?_,?_⟩
 . simp only [World.cell?,hb,q21,Option.isSome_none,q3,↓reduceIte,h5,h6]
 have:=mh hb h3;simpa using this
theorem BH {w:World} {b n:Nat} {cs:aV} {e:El} {ys:lI} {os:Array Obj} (hb:w.heap[b]? =some (eA cs e)) (hcs:ys.length<=cs.size):
 ∃cs':aV,cs'.size=cs.size/\(∀i (h:i<(ys.map λn=>AV.val (.int .i64 n)).length),Rd (grow (putRow (Value.int .i64) (Sort.ahead w n) b 0 ys.toArray) os) (λ_=>False) (ys.map λn=>AV.val (.int .i64 n))[i] (cs'.toList.getD i uD))∧
  (grow (putRow (Value.int .i64) (Sort.ahead w n) b 0 ys.toArray) os).heap[b]? =some (eA cs' e)/\(∀c:Nat,c≠b->c<w.heap.size->(grow (putRow (Value.int .i64) (Sort.ahead w n) b 0 ys.toArray) os).heap[c]? =w.heap[c]?)∧
  w.heap.size<=(grow (putRow (Value.int .i64) (Sort.ahead w n) b 0 ys.toArray) os).heap.size/\a7 w (grow (putRow (Value.int .i64) (Sort.ahead w n) b 0 ys.toArray) os):=by
 have hbl:b<w.heap.size:=(q1.1 hb).1;have aD:∀c:Nat,c<w.heap.size->(grow (putRow (Value.int .i64) (Sort.ahead w n) b 0 ys.toArray) os).heap[c]? =if b=c then w.heap[c]?.map (onCells (putCells (Value.int .i64) 0 ys.toArray)) else w.heap[c]? :=by intro c hc;rw [heap_grow_old _ _ (by simpa using hc)];simp only [putRow,mapBlock,Sort.heap_ahead,Array.getElem?_modify]
 refine ⟨putCells (Value.int .i64) 0 ys.toArray cs,by simp [putCells],?_,?_,?_,?_,⟨rfl,rfl,rfl⟩⟩
 . intro i hi;have hi':i<ys.length:=(by simpa using hi);have hi2:i<cs.size:=(by omega);have e1:(putCells (Value.int .i64) 0 ys.toArray cs).toList.getD i uD= .int .i64 ys[i]:=by
    rw [q6,Array.getElem?_toList];simp [putCells,hi2,hi']
   rw [e1,List.getElem_map];exact .val _ rfl
 . have hs:(putCells (Value.int .i64) 0 ys.toArray cs).size=cs.size:=(by simp [putCells]);rw [aD b hbl,if_pos rfl,hb];show some (Obj.cells (putCells (Value.int .i64) 0 ys.toArray cs) e.1 (oh e cs.size))=some (Obj.cells (putCells (Value.int .i64) 0 ys.toArray cs) e.1 (oh e (putCells (Value.int .i64) 0 ys.toArray cs).size));rw [hs]
 . intro c hcb hc;rw [aD c hc,if_neg (Ne.symm hcb)]
 simp
theorem pD.SG {P:Program} {f:FuncId} (hE:Enters P f) (g:lI->lI) (hg:∀zs,(g zs).length=zs.length)
 (hs:∀(pC cap:Nat) (zs:lI) (w:World),Holds (Value.int .i64) w pC 0 zs.toArray->pC<w.heap.size->zs.length<4611686018427387904→
   Calls P f #[.slice (some ⟨pC,0,none⟩) zs.length cap] w λe w'=>e= .returned (.tuple #[])/\∃n os,w'=grow (putRow (Value.int .i64) (Sort.ahead w n) pC 0 (g zs).toArray) os)
 (h0:∀(a:Option Addr) (w:World),Calls P f #[.slice a 0 0] w λe w'=>e= .returned (.tuple #[])/\w'=w)
 (v:Nat) (zs:lI) (hz:zs.length<=1048576):
 pD P f [.row v ⟨1,false⟩ true (zs.map λn=>.val (.int .i64 n))] [.ref 1000000000 v 0 zs.length] (λr io=>r= .aX []/\io=[.row v ⟨1,false⟩ true ((g zs).map λn=>.val (.int .i64 n))]):=by
 have:=pD.row (P:=P) (f:=f) v (zs.map λn=>AV.val (.int .i64 n)) ((g zs).map λn=>AV.val (.int .i64 n)) (by simp [hg])
  (yl zs) (by intro i hi;simp [fits]) hE ?_ ?_
 . simpa using this
 . intro w b cap cs e hb hcs b9 hrd;have h4:(zs.map λn=>AV.val (.int .i64 n)).length=zs.length:=List.length_map _;have h1:=hs b cap zs w (Fm hb (by omega) hrd) (q1.1 hb).1 (by omega);rw [List.length_map];refine h1.mono ?_;rintro e' w' ⟨rfl,n,os,rfl⟩;exact ⟨rfl,BH hb (by rw [hg];omega)⟩
 intro hx a w;refine (h0 a w).mono ?_;rintro e' w' ⟨rfl,rfl⟩;exact ⟨rfl,Grown.refl _⟩
section
variable {P:Program} {m:Mem}
theorem Fo {f:FuncId} {l af j:Nat} {xs ys:lA} {k:AV->Mem->Prop} (hE:Enters P f) (hlk:ah m l=some (.row af ⟨1,false⟩ true xs)) (s5:bk xs=true) (hlen:ys.length=xs.length) (hj:j<=xs.length)
 (hfy:∀i (h:i<ys.length),fits ⟨1,false⟩ ys[i])
 (hc:∀(w:World) (b cap:Nat) (cs:aV) (e:El),w.heap[b]? =some (eA cs e)->cs.size=cap->xs.length<=cap->(∀i (h:i<xs.length),Rd w (λ_=>False) xs[i] (cs.toList.getD i uD))→
   Calls P f #[.slice (some ⟨b,0,none⟩) xs.length cap] w λe' w'=>e'= .returned (.slice (some ⟨b,0,none⟩) j cap)/\∃cs':aV,cs'.size=cs.size/\(∀i (h:i<ys.length),Rd w' (λ_=>False) ys[i] (cs'.toList.getD i uD))∧
    w'.heap[b]? =some (eA cs' e)/\(∀c:Nat,c≠b->c<w.heap.size->w'.heap[c]? =w.heap[c]?)/\w.heap.size<=w'.heap.size/\a7 w w')
 (h0:xs=[]->∀(a:Option Addr) (w:World),Calls P f #[.slice a 0 0] w λe' w'=>e'= .returned (.slice a 0 0)/\Grown w w')
 (hk:k (.ref l (af+1) 0 j) ((l,.row (af+1) ⟨1,false⟩ true ys)::m)):h_ P f [.ref l af 0 xs.length] m k:=by
 refine λB N φ fp S ts a w vs hR hsz hx hxl=>⟨hE,?_⟩;obtain ⟨u,rfl⟩:∃u,vs= #[u]:=by have:vs.size=1:=hsz;exact ⟨vs[0],by apply Array.ext<;>simp_all⟩
 have hx0:RV w S φ (.ref l af 0 xs.length) u:=hx 0 (by simp);obtain ⟨r1,r2⟩:=dq hx0;have fI:∀v',known m l v'->v'<af+1:=by rintro v' ⟨k',h1,h2⟩;rw [hlk] at h1;cases h1;exact Nat.lt_succ_of_le h2
 have nilCase:xs=[]->(∃a',u= .slice a' 0 0)->Calls P f #[u] w λe' w'=>∃v,e'= .returned v/\iw B N a (λx ts' m'=>ts'=ts/\k x m') v w':=by
  rintro h1 ⟨a',rfl⟩;have hy:ys=[]:=q5 (by rw [hlen,h1];rfl);have hj0:j=0:=by rw [h1] at hj;simpa using hj
  refine (h0 h1 a' w).mono ?_;rintro e' w' ⟨rfl,hg⟩;refine ⟨_,rfl,(hR.grown hg).rT fI (nv:=af+1) (sh:=⟨1,false⟩) (deep:=true) ⟨rfl,?_⟩⟩;rw [hy,hj0] at hk;exact hk
 rcases hR.aG l _ hlk with ⟨hφ,hxs,_⟩|⟨b,cap,hφ,hbm,_,a_⟩
 . exact nilCase hxs (r2 hφ).2
 simp only [if_true] at a_;obtain ⟨ad,cap',rfl,hn,hcp⟩:=r1 b _ hφ;rcases hcp with rfl|⟨rfl,cs0,e0,hh0,hs0⟩
 . have hx1:xs=[]:=q5 (by omega);exact nilCase hx1 ⟨ad,by rw [hx1];rfl⟩
 rcases ke a_ with ⟨hx1,hf0,_⟩|⟨b',cap2,cs,e,fss,q1,hgf,aD,hcs,b9,hmx,hff,hfl,hvv⟩
 . rw [hf0] at hbm;cases hbm
 simp only [Value.slice.injEq,Option.some.injEq,Addr.mk.injEq] at q1;obtain ⟨⟨rfl,_⟩,_,rfl⟩:=q1;rw [aD] at hh0;simp only [Option.some.injEq,Obj.cells.injEq] at hh0;obtain ⟨rfl, -, -⟩:=hh0;simp only [Nat.mul_one,q21] at hs0 hcs;have hfe:∀i (h:i<xs.length),Rd w (λ_=>False) xs[i] (cs.toList.getD i uD)/\fss.getD i []=[]:=by intro i hi;have:=fy (S':=λ_=>False) (hvv i hi) (jJ s5 i hi);rw [ba,Nat.mul_one] at this;exact this
 have hfs:fss.flatten=[]:=List.flatten_eq_nil_iff.2 λl hl=>by
  obtain ⟨i,hi,rfl⟩:=q10 hl;have:=(hfe i (hfl▸hi)).2
  rwa [q6,q7 hi] at this
 rw [hfs] at hgf;rw [show (0:Nat)*(1:Nat)=0 from rfl];refine (hc w b cap' cs e aD hs0 hn λi hi=>(hfe i hi).1).mono ?_;rintro e' w' ⟨rfl,cs',hs',hr',hb',we,og,zW⟩;have hbl:b<w.heap.size:=(q1.1 aD).1;have DA:jH w w':=by
  intro c cs2 e2 hc2;by_cases ec:c=b
  . subst ec;obtain rfl:=dh (aD.symm.trans hc2);exact ⟨cs',e,hb',hs'⟩
  exact ⟨cs2,e2,by rw [we c ec (q1.1 hc2).1];exact hc2,rfl⟩
 refine ⟨_,rfl,hR.kf (b:=b) (cap:=cap) (n:=j) (nv:=af+1) (sh:=⟨1,false⟩) (deep:=true) (xs:=ys) (fs:=[b]) og zW DA we
  (λl b sh af cs e _ hb=>DA b cs e hb) (.inl hbm) fI (λc hc=>.inl (by simpa using hc)) (by simp) (λh=>(by cases h)) (by simp) ?_ ?_ ⟨rfl,hk⟩⟩
 . have e2:[b]=b::(List.replicate ys.length ([]:lN)).flatten:=by
    congr 1;exact (List.flatten_eq_nil_iff.2 λl hl=>(List.mem_replicate.1 hl).2).symm
   show Own w' (λ_=>False) _ _ [b];rw [e2];refine .arr ⟨1,false⟩ ys b cap cs' e _ hb' (by rw [hs',hcs];simp) (by omega) hmx hfy (by simp) λi hi=> ?_;have e3:(List.replicate ys.length ([]:lN)).getD i []=[]:=(by simp [q6,hi]);rw [e3,ba,Nat.mul_one];exact .rd _ _ (hr' i hi)
 exact ⟨some ⟨b,0,none⟩,cap',rfl,by omega,.inr ⟨rfl,cs',e,hb',by rw [hs',hs0];simp⟩⟩
theorem sC {f:FuncId} {l af n:Nat} {zs ys:lI} {k:AV->Mem->Prop} (j:Nat) (hE:Enters P f) (hlk:ah m l=some (.row af ⟨1,false⟩ true (zs.map λn=>.val (.int .i64 n)))) (hn:n=zs.length) (hlen:ys.length=zs.length) (hj:j<=zs.length)
 (hz:zs.length<=1048576)
 (hc:∀(pC cap:Nat) (w:World),Holds (Value.int .i64) w pC 0 zs.toArray->zs.length<=cap→
   Calls P f #[.slice (some ⟨pC,0,none⟩) zs.length cap] w λe' w'=>e'= .returned (.slice (some ⟨pC,0,none⟩) j cap)/\∃q,w'=putRow (Value.int .i64) (Sort.ahead w q) pC 0 ys.toArray)
 (h0:∀(a:Option Addr) (w:World),Calls P f #[.slice a 0 0] w λe' w'=>e'= .returned (.slice a 0 0)/\w'=w)
 (hk:k (.ref l (af+1) 0 j) ((l,.row (af+1) ⟨1,false⟩ true (ys.map λn=>.val (.int .i64 n)))::m)):h_ P f [.ref l af 0 n] m k:=by
 have h4:(zs.map λn=>AV.val (.int .i64 n)).length=zs.length:=List.length_map _;rw [hn,←h4];refine Fo hE hlk (yl zs) (ys:=ys.map λn=>.val (.int .i64 n)) (j:=j) (by simp [hlen]) (by omega) (by intro i hi;simp [fits]) ?_ ?_ hk
 . intro w b cap cs e hb hcs b9 hrd;have h1:=hc b cap w (Fm hb (by omega) hrd) (by omega);rw [h4];refine h1.mono ?_;rintro e' w' ⟨rfl,n,rfl⟩;refine ⟨rfl,?_⟩;have:=BH (os:= #[]) (n:=n) (ys:=ys) hb (by omega);simpa only [grow_empty] using this
 intro hx a w;refine (h0 a w).mono ?_;rintro e' w' ⟨rfl,rfl⟩;exact ⟨rfl,Grown.refl _⟩
theorem Fp {f:FuncId} {d l af n:Nat} {zs ys:lI} {xt:lA} {k:AV->Mem->Prop} {q:Pack k} (j:Nat) (hE:Enters P f) (hlk:ah m l=some (.row af ⟨1,false⟩ true (zs.map λn=>.val (.int .i64 n)))) (hn:n=zs.length) (hlen:ys.length=zs.length) (hj:j<=zs.length)
 (hz:zs.length<=1048576)
 (hc:∀(pC cap:Nat) (w:World),Holds (Value.int .i64) w pC 0 zs.toArray->zs.length<=cap→
   Calls P f #[.slice (some ⟨pC,0,none⟩) zs.length cap] w λe' w'=>e'= .returned (.slice (some ⟨pC,0,none⟩) j cap)/\∃q,w'=putRow (Value.int .i64) (Sort.ahead w q) pC 0 ys.toArray)
 (h0:∀(a:Option Addr) (w:World),Calls P f #[.slice a 0 0] w λe' w'=>e'= .returned (.slice a 0 0)/\w'=w)
 (hk:k (.ref l (af+1) 0 j) ((l,.row (af+1) ⟨1,false⟩ true (ys.map λn=>.val (.int .i64 n)))::m)):eR P f d [.ref l af 0 n] xt m k q:=
 .inl (sC j hE hlk hn hlen hj hz hc h0 hk)
theorem Fq {f:FuncId} {d l af n:Nat} {zs ys:lI} {xt:lA} {k:AV->Mem->Prop} {q:Pack k} (j:Nat) (hE:Enters P f) (hlk:ah m l=some (.row af ⟨1,false⟩ true (zs.map λn=>.val (.int .i64 n)))) (hn:n=zs.length) (hlen:ys.length=zs.length) (hj:j<=zs.length)
 (hz:zs.length<=1048576)
 (hc:∀(pC cap:Nat) (w:World),Holds (Value.int .i64) w pC 0 zs.toArray->zs.length<=cap→
   Calls P f #[.slice (some ⟨pC,0,none⟩) zs.length cap] w λe' w'=>e'= .returned (.slice (some ⟨pC,0,none⟩) j cap)/\∃q,w'=putRow (Value.int .i64) (Sort.ahead w q) pC 0 ys.toArray)
 (h0:∀(a:Option Addr) (w:World),Calls P f #[.slice a 0 0] w λe' w'=>e'= .returned (.slice a 0 0)/\w'=w)
 (hk:k (.ref l (af+1) 0 j) ((l,.row (af+1) ⟨1,false⟩ true (ys.map λn=>.val (.int .i64 n)))::m)):ij P f d [.ref l af 0 n] xt m k q:=
 .inr (.inr ⟨_,[_],hk,λm' a _ k' hk'=>sC j hE ((a l ⟨_,List.mem_singleton.2 rfl,NL.ref _ _ _ _⟩).trans hlk) hn hlen hj hz hc h0 hk'⟩)
theorem nt {P:Program} {w:World} {b o:Nat} {cs:aV} {e:El} {vs:lV} (hb:w.heap[b]? =some (eA cs e)) (h1:∀u,u∈vs->u.oneCell'=true) (pr:o+vs.length<=cs.size):
 w.setCells b o vs=w.setRow b (cs.toList.take o++vs++cs.toList.drop (o+vs.length)).toArray:=by
 have e1:=iN P (e:=e) (o:=o) vs 0 cs w hb (by simpa using pr) h1
 have e2:=run_storeCells_cells (P:=P) b o vs 0 w (λj hj=>by
  have hlt:o+0+j<cs.size:=by omega
  simp [World.cell?,hb];omega) (λj hj=>by
   have hlt:o+j<cs.size:=(by omega);have:=mh hb hlt
   simpa using this) h1
 simp only [Nat.add_zero] at e1 e2;rw [e2] at e1;injection e1
theorem SH {w:World} {S:nP} {x:AV} {l:lV} {o:Nat} {sh:Sh} {fs:lN} (h:Own w S x (elemV l o sh) fs) (hf:fits sh x) (hl:o+sh.sz<=l.length) (c:Nat) (hc:c<sh.sz):(l.getD (o+c) uD).oneCell'=true:=by
 cases sh with
 |mk sz ag=>
 simp only at hc hl;have one:leaf x->ag=false/\sz=1->(l.getD (o+c) uD).oneCell'=true:=by rintro hlf ⟨rfl,rfl⟩;have:=h.aT hlf;rw [ba] at this;rw [show o+c=o by omega];exact this
 cases x with
 |agg zs=>
  obtain ⟨rfl,hzl⟩:=hf;obtain ⟨cs,fss,hcs,_,h1,h2,_,h3⟩:=CH h;rw [cY] at hcs;cases hcs;have h4:=(h3 c (by rw [hzl];exact hc)).aT (h2 _ (by rw [hzl];exact hc));rw [show (((l.drop o).take sz).toArray.toList)=(l.drop o).take sz from rfl,bR _ _ _ _ hc] at h4;exact h4
 |undef=>exact hf.elim
 |aX xs=>exact hf.elim
 |_=>exact one trivial hf
def Pj (i p:Nat):Nat:=if p<i then p else p+1
theorem tG {α:Type} (xs:List α) (i p:Nat):(xs.eraseIdx i)[p]? =xs[Pj i p]? :=by rw [List.getElem?_eraseIdx];unfold Pj;split<;>rfl
theorem Fs {f:FuncId} {l af i n:Nat} {sh:Sh} {xs:lA} {zs:lV} {k:AV->Mem->Prop} (hE:Enters P f) (hlk:ah m l=some (.row af sh true xs)) (hn:n=xs.length) (hi:i<xs.length) (hsz:0<sh.sz)
 (hzl:zs.length=sh.sz) (hz1:∀u,u∈zs->u.oneCell'=true)
 (hc:∀(w:World) (b cap:Nat) (cs:aV) (e:El),w.heap[b]? =some (eA cs e)->cs.size=cap*sh.sz->cap<=9223372036854775807->xs.length<=cap->(∀v,v∈(cs.toList.drop ((i+1)*sh.sz)).take ((xs.length-(i+1))*sh.sz)->v.oneCell'=true)→
   Calls P f #[.slice (some ⟨b,0,none⟩) xs.length cap,.int .i64 i,.int .i64 ((i+1:Nat):Int)] w λe' w'=>e'= .returned (.slice (some ⟨b,0,none⟩) (xs.length-1) cap)∧
    ∃q,w'=((w.drewN q).setCells b (i*sh.sz) ((cs.toList.drop ((i+1)*sh.sz)).take ((xs.length-(i+1))*sh.sz))).setCells b ((xs.length-1)*sh.sz) zs)
 (hk:k (.ref l (af+1) 0 (xs.length-1)) ((l,.row (af+1) sh true (xs.eraseIdx i))::m)):h_ P f [.ref l af 0 n,.val (.int .i64 i),.val (.int .i64 ((i:Int)+1))] m k:=by
 subst hn;refine λB N φ fp S ts a w vs hR YE hx hxl=>⟨hE,?_⟩;obtain ⟨u,u1,u2,rfl⟩:∃u u1 u2,vs= #[u,u1,u2]:=by
  have:vs.size=3:=YE
  exact ⟨vs[0],vs[1],vs[2],by
   apply Array.ext
   . simpa using this
   intro j h1 h2;have:j=0\/j=1\/j=2:=(by omega)
   rcases this with rfl|rfl|rfl<;>rfl⟩
 have hx0:RV w S φ (.ref l af 0 xs.length) u:=hx 0 (by simp);have hx1:RV w S φ (.val (.int .i64 i)) u1:=hx 1 (by simp);have hx2:RV w S φ (.val (.int .i64 ((i:Int)+1))) u2:=hx 2 (by simp);obtain ⟨rfl,_⟩:=aR hx1;obtain ⟨rfl,_⟩:=aR hx2;obtain ⟨r1,r2⟩:=dq hx0;have fI:∀v',known m l v'->v'<af+1:=by rintro v' ⟨k',h1,h2⟩;rw [hlk] at h1;cases h1;exact Nat.lt_succ_of_le h2
 rcases hR.aG l _ hlk with ⟨hφ,hxs,_⟩|⟨b,cap,hφ,hbm,_,a_⟩
 . rw [hxs] at hi;exact absurd hi (q20 _)
 simp only [if_true] at a_;obtain ⟨ad,cap',rfl,hn,hcp⟩:=r1 b _ hφ;rcases hcp with rfl|⟨rfl,cs0,e0,hh0,hs0⟩
 . omega
 rcases ke a_ with ⟨hx1,hf0,_⟩|⟨b',cap2,cs,e,fss,q1,hgf,aD,hcs,b9,hmx,hff,hfl,hvv⟩
 . rw [hf0] at hbm;cases hbm
 simp only [Value.slice.injEq,Option.some.injEq,Addr.mk.injEq] at q1;obtain ⟨⟨rfl,_⟩,_,rfl⟩:=q1;rw [aD] at hh0;simp only [Option.some.injEq,Obj.cells.injEq] at hh0;obtain ⟨rfl, -, -⟩:=hh0;rw [q21] at hs0;have hcc:cap'=cap:=Nat.eq_of_mul_eq_mul_right hsz (by rw [←hs0,hcs]);subst hcc;have pr:xs.length*sh.sz<=cs.size:=by rw [hcs];exact Nat.mul_le_mul_right _ b9
 have cell1:∀p,p<xs.length->∀c,c<sh.sz->(cs.toList.getD (p*sh.sz+c) uD).oneCell'=true:=by intro p hp c hcl;have h1:=a8 (s:=sh.sz) hp;exact SH (hvv p hp) (hff p hp) (by rw [Array.length_toList];omega) c hcl
 have hmul:∀p,(p+1)*sh.sz=p*sh.sz+sh.sz:=λp=>Nat.succ_mul p _;obtain ⟨g1,hg1⟩:∃g1,g1=(xs.length-(i+1))*sh.sz:=⟨_,rfl⟩;have hg2:(i+1)*sh.sz+g1=xs.length*sh.sz:=by rw [hg1,←Nat.add_mul];congr 1;omega
 have hg3:(xs.length-1)*sh.sz+sh.sz=xs.length*sh.sz:=by rw [←hmul];congr 1;omega
 have hg4:i*sh.sz+g1=(xs.length-1)*sh.sz:=by rw [hmul] at hg2;omega
 obtain ⟨news,qG⟩:∃news,news=(cs.toList.drop ((i+1)*sh.sz)).take ((xs.length-(i+1))*sh.sz):=⟨_,rfl⟩;have hnl:news.length=g1:=by rw [qG,hg1];simp;omega
 have T':∀c,c<g1->news.getD c uD=cs.toList.getD ((i+1)*sh.sz+c) uD:=by intro c hcl;rw [qG,bR _ _ _ _ (by rw [←hg1];exact hcl)]
 have hn1:∀u,u∈news->u.oneCell'=true:=by
  intro u hu;obtain ⟨t,ht,rfl⟩:=q10 hu;have h2:=T' t (by omega);rw [q6,q7 ht] at h2;simp only [Option.getD_some] at h2;rw [h2];have h3:((i+1)*sh.sz+t) / sh.sz<xs.length:=by rw [Nat.div_lt_iff_lt_mul hsz];omega
  have h4:=Nat.div_add_mod ((i+1)*sh.sz+t) sh.sz;have h5:=cell1 _ h3 _ (Nat.mod_lt ((i+1)*sh.sz+t) hsz);rw [Nat.mul_comm] at h4;rw [h4] at h5;exact h5
 have hcr:=hc w b cap' cs e aD hcs (by unfold maxLen at hmx;omega) b9 (by rw [←qG];exact hn1);rw [←qG] at hcr;rw [show (0:Nat)*sh.sz=0 from Nat.zero_mul _];refine hcr.mono ?_;rintro e' w' ⟨rfl,q',hw'⟩;have QO:(w.drewN q').heap[b]? =some (eA cs e):=aD;have hf1:i*sh.sz+news.length<=cs.size:=by rw [hnl];omega
 rw [nt (P:=P) QO hn1 hf1] at hw';have hs1:=bW (cs:=cs) hf1;have hh1:=bV QO hs1;have Ua:∀c,c<(xs.length-1)*sh.sz->(cs.toList.take (i*sh.sz)++news++cs.toList.drop (i*sh.sz+news.length)).toArray.toList.getD c uD=if c<i*sh.sz then cs.toList.getD c uD else cs.toList.getD (c+sh.sz) uD:=by
  intro c hcl;show (cs.toList.take (i*sh.sz)++news++cs.toList.drop (i*sh.sz+news.length)).getD c uD=_;rw [eH _ _ _ _ (by rw [Array.length_toList];exact hf1)];by_cases h1:c<i*sh.sz
  . rw [if_neg (by omega),if_pos h1]
  rw [if_pos (by omega),if_neg h1,T' _ (by omega),hmul];congr 1;omega
 generalize (cs.toList.take (i*sh.sz)++news++cs.toList.drop (i*sh.sz+news.length)).toArray=cs1 at hw' hs1 hh1 Ua;have hf2:(xs.length-1)*sh.sz+zs.length<=cs1.size:=by rw [hzl,hs1];omega
 rw [nt (P:=P) hh1 hz1 hf2] at hw';have hs2:=bW (cs:=cs1) hf2;have hh2:=bV hh1 hs2;have Ub:∀c,c<(xs.length-1)*sh.sz->(cs1.toList.take ((xs.length-1)*sh.sz)++zs++cs1.toList.drop ((xs.length-1)*sh.sz+zs.length)).toArray.toList.getD c uD=if c<i*sh.sz then cs.toList.getD c uD else cs.toList.getD (c+sh.sz) uD:=by intro c hcl;rw [←Ua c hcl];show (cs1.toList.take ((xs.length-1)*sh.sz)++zs++cs1.toList.drop ((xs.length-1)*sh.sz+zs.length)).getD c uD=_;rw [eH _ _ _ _ (by rw [Array.length_toList];exact hf2),if_neg (by omega)]
 have we:∀c,c≠b->w'.heap[c]? =w.heap[c]? :=by intro c hcb;rw [hw',aC _ hcb,aC _ hcb];rfl
 have Zq:w'.heap.size=w.heap.size:=by rw [hw'];simp
 have hso:a7 w w':=by rw [hw'];exact ⟨rfl,rfl,rfl⟩
 rw [←hw'] at hh2;clear hw';generalize (cs1.toList.take ((xs.length-1)*sh.sz)++zs++cs1.toList.drop ((xs.length-1)*sh.sz+zs.length)).toArray=cs2 at hs2 hh2 Ub;have Tb:cs2.size=cs.size:=hs2.trans hs1;have DA:jH w w':=by
  intro c cs3 e3 hc3;by_cases ec:c=b
  . subst ec;obtain rfl:=dh (aD.symm.trans hc3);exact ⟨cs2,e,hh2,Tb⟩
  exact ⟨cs3,e3,by rw [we c ec];exact hc3,rfl⟩
 have nT:=hR.ia l;rw [hgf] at nT;have jY:=List.nodup_cons.1 nT;have hel:(xs.eraseIdx i).length=xs.length-1:=by rw [List.length_eraseIdx,if_pos hi]
 have dC:((fss.eraseIdx i).flatten).Sublist fss.flatten:=by
  rw [List.eraseIdx_eq_take_drop_succ,List.flatten_append];have e1:fss.flatten=(fss.take i).flatten++((fss.drop i).take 1).flatten++(fss.drop (i+1)).flatten:=by rw [List.append_assoc,←List.flatten_append,←List.flatten_append];congr 1;rw [show fss.drop (i+1)=(fss.drop i).drop 1 by rw [List.drop_drop],List.take_append_drop,List.take_append_drop]
  rw [e1];exact List.Sublist.append (List.sublist_append_left ..) (List.Sublist.refl _)
 have cy:∀c,c∈(fss.eraseIdx i).flatten->c∈fp l:=λc hc=>by rw [hgf];exact q12 _ (dC.subset hc)
 refine ⟨_,rfl,hR.kf (b:=b) (cap:=cap') (n:=xs.length-1) (nv:=af+1) (sh:=sh) (deep:=true) (xs:=xs.eraseIdx i) (fs:=b::(fss.eraseIdx i).flatten) (by omega) hso DA (λc hcb _=>we c hcb)
  (λl b sh af cs e _ hb=>DA b cs e hb) (.inl hbm) fI (λc hc=> ?_) (q13 ..) (λh=>(by cases h)) (List.nodup_cons.2 ⟨λhc=>jY.1 (dC.subset hc),jY.2.sublist dC⟩) ?_ ?_ ⟨rfl,hk⟩⟩
 . rcases q11.1 hc with rfl|hc
   . exact .inl rfl
   exact .inr (cy c hc)
 . show Own w' (λ_=>False) _ _ _;refine .arr sh (xs.eraseIdx i) b cap' cs2 e (fss.eraseIdx i) hh2 (by rw [Tb,hcs]) (by omega) hmx (λp hp=> ?_) (by rw [hel,List.length_eraseIdx,if_pos (by omega)];omega) λp hp=> ?_
   . have hp1:Pj i p<xs.length:=(by unfold Pj;split<;>omega);have:(xs.eraseIdx i)[p]=xs[Pj i p]:=by
      have h1:=tG xs i p;rw [q7 hp,q7 hp1] at h1;exact Option.some.inj h1
     rw [this];exact hff _ hp1
   have hp1:Pj i p<xs.length:=(by unfold Pj;split<;>omega);have hp2:p<xs.length-1:=(by omega);have e1:(xs.eraseIdx i)[p]=xs[Pj i p]:=by have h1:=tG xs i p;rw [q7 hp,q7 hp1] at h1;exact Option.some.inj h1
   have e2:(fss.eraseIdx i).getD p []=fss.getD (Pj i p) []:=by rw [q6,q6,tG]
   have m1:=a8 (s:=sh.sz) hp2;have m2:=a8 (s:=sh.sz) hp1;have e3:elemV cs2.toList (p*sh.sz) sh=elemV cs.toList (Pj i p*sh.sz) sh:=by
    refine iy (by rw [Array.length_toList,Tb];omega) (by rw [Array.length_toList];omega) (gH (hff _ hp1)) λc hcl=> ?_;rw [Ub _ (by omega)];unfold Pj;by_cases h1:p<i
    . have:=a8 (s:=sh.sz) h1;rw [if_pos (by omega),if_pos h1]
    have:i*sh.sz<=p*sh.sz:=Nat.mul_le_mul_right _ (by omega);rw [if_neg (by omega),if_neg h1,hmul];congr 1;omega
   rw [e1,e2,e3];exact (hvv _ hp1).mono (λ_ h=>h.elim) (λ_ h=>h) λc hc2=>we c λe=>jY.1 (by rw [←e];exact aJ (by omega) hc2)
 exact ⟨some ⟨b,0,none⟩,cap',rfl,by omega,.inr ⟨rfl,cs2,e,hh2,by rw [Tb,hcs]⟩⟩
end
def mb (P:Program) (f:FuncId) (io:List bc) (args:lA) (post:AV->List bc->Prop):Prop:=
 Enters P f/\∀(w:World) (φ:Nat->LS) (fp:Nat->lN) (S:nP) (vs:aV),vs.size=args.length→
  RS (Hr w φ fp S io) vs.size φ fp S (bF 0 args) (mg 0 io) {tmps:=vs,defers:=[]} w→
  Calls P f vs w λe w'=>∃r v io' φ' fp' S' m',e= .returned v/\post r io'/\RS (Hr w φ fp S io) 0 φ' fp' S' [] m' {tmps:= #[],defers:=[]} w'/\KW io io' m'/\Rd w' S' r v
def Pk (P:Program) (rs:List ResultVar) (vers:lN) (post:AV->List bc->Prop):di
 | .normal=>λts m=>aN P (λxs=>iP (λys m'=>aq ys=[]/\qM m' (λio'=>post (bE ys) io') 0 vers []) [] m xs) rs ts m []
 | .ret=>λts m=>aN P (λxs=>iP (λys m'=>aq ys=[]/\qM m' (λio'=>post (bE ys) io') 0 vers []) [] m xs) rs ts m []
 |_=>λ_ _=>False
theorem LV (P:Program) (rs:List ResultVar) (vers:lN) (post:AV->List bc->Prop) (ts:Env) (m:Mem):
 Pk P rs vers post .ret ts m=aN P (λxs=>iP (λys m'=>aq ys=[]/\qM m' (λio'=>post (bE ys) io') 0 vers []) [] m xs) rs ts m []:=rfl
theorem mb.np {P:Program} {f:FuncId} {fn:Func} {c:Code} {io:List bc} {args:List AV} {post:AV→List bc→Prop} (hf:P.funcs[f]? =some fn) (hn:(fn.name== "runtime.NumGoroutine")=false) (hb:fn.body=some c)
 (hok:codeOk fn.ntmps c=true) (ha:args.length<=fn.ntmps) (hv:vc P fn.ntmps c (bF 0 args) (mg 0 io) (Pk P fn.results.toList (io.map bc.af) post)):mb P f io args post:=by
 refine ⟨⟨fn,c,hf,hn,hb⟩,λw φ fp S vs hsz hR0=> ?_⟩;refine calls_of_wp hf hb ?_;have hRS:RS (Hr w φ fp S io) fn.ntmps φ fp S (bF 0 args) (mg 0 io) {tmps:=vs++q2 (fn.ntmps-vs.size) undef,defers:=[]} w:=by
  refine {hR0 with tm:=λt=> ?_,defers:=rfl,lq:=by simp;omega};by_cases h:t<args.length
  . have h1:=hR0.tm t;have:vs.getD t uD=(vs++q2 (fn.ntmps-vs.size) undef).getD t uD:=by
     have h2:t<vs.size:=(by omega);simp only [q0];rw [Array.getElem?_append_left h2]
    rw [←this];exact h1
  rw [bG];have:(if 0<=t then (args[t-0]?).getD AV.undef else .undef)= .undef:=by simp [q8 (show args.length<=t by omega)]
  rw [this];exact .rd _ _ (.undef _)
 have fS:∀a' w',ic (Hr w φ fp S io) fn.ntmps (λts m=>aN P (λxs=>iP (λys m'=>aq ys=[]/\qM m' (λio'=>post (bE ys) io') 0 (io.map bc.af) []) [] m xs) fn.results.toList ts m []) a' w'→
  a'.defers=[]/\∃v,(results fn a'.tmps).run P w'= .ok v w'/\∃r v' io' φ' fp' S' m',Ending.returned v= .returned v'/\post r io'/\RS (Hr w φ fp S io) 0 φ' fp' S' [] m' {tmps:= #[],defers:=[]} w'/\KW io io' m'∧
   Rd w' S' r v':=by
  rintro a' w' ⟨DJ,fp0,S0,ts',m0,h0,hk⟩;refine ⟨h0.defers,?_⟩;obtain ⟨ys0,us,h1,h2,h3,h4⟩:=cH h0 fn.results.toList [] [] ⟨rfl,λi hi=>absurd hi (q20 _)⟩ (λi hi=>absurd hi (q20 _)) hk;obtain ⟨φ',fp',S',m',ys,hgv,h3,hU,h1⟩:=pB ys0 us [] [] h0 (by simpa using h3) ⟨rfl,λi hi=>absurd hi (q20 _)⟩ h1;have h':=hgv.rs;obtain ⟨h3a,h3b⟩:=h3;simp only [q15] at h3a h3b;obtain ⟨io',q1,q2,q3⟩:=CN _ _ _ h1;rw [List.reverse_nil,q15] at q1;refine ⟨if h:us.toArray.size=1 then us.toArray[0] else .tuple us.toArray,?_,bE ys,_,io',φ',fp',S',m',rfl,q1,?_,⟨by simpa using q2,λk hk hk'=> ?_⟩,cU (mG h3a h3b) (im hU)⟩
  . have hm:results fn a'.tmps=(do let vs ←fn.results.mapM (cZ a'.tmps);pure (if h:vs.size=1 then vs[0] else .tuple vs)):=by
     unfold results;congr 1
    rw [hm,Sem.run_bind,Array.mapM_eq_mapM_toList];have:(List.toArray <$> fn.results.toList.mapM (cZ a'.tmps):Sem aV).run P w'= .ok us.toArray w':=by rw [map_eq_pure_bind,Sem.run_bind,h2];rfl
    rw [this];rfl
  . exact {h' with tm:=λt=>by rw [look_nil];exact .rd _ _ (.undef _),tl:=λt l af hl=>(by rw [look_nil] at hl;cases hl),defers:=rfl,lq:=rfl}
  have:=q3 k hk (by simpa using hk');rw [q21] at this;refine ⟨this.1,?_,this.2.2⟩;rw [this.2.1,List.getElem_map]
 refine wp_mono (cB c _ _ _ hok hv _ _ _ _ _ _ hRS) ?_;intro e a' w' hq;cases e with
 |normal=>exact fS a' w' hq
 |ret=>exact fS a' w' hq
 |_=>obtain ⟨_,_,_,_,_,_,hh⟩:=hq;exact hh.elim
theorem mb.cW {P:Program} {f:FuncId} {fn:Func} {c:Code} {io:List bc} {args:lA} {post:AV->List bc->Prop} (N:Nat) (rs:List ResultVar) (hf:P.funcs[f]? =some fn) (hN:fn.ntmps=N:=by exact rfl) (hr:fn.results.toList=rs:=by exact rfl)
 (hn:(fn.name== "runtime.NumGoroutine")=false:=by exact rfl) (hb:fn.body=some c:=by exact rfl) (hok:codeOk N c=true:=by exact rfl) (ha:args.length≤N:=by exact oT rfl) (hv:vc P N c (bF 0 args) (mg 0 io) (Pk P rs (io.map bc.af) post)):mb P f io args post:=by
 subst hN;subst hr;exact mb.np hf hn hb hok ha hv
section
variable {P:Program} {B:eC} {N:Nat} {φ:Nat->LS} {fp:Nat->lN} {S:nP} {ts:Env} {m:Mem} {a:Act} {w:World}
theorem Ft {f:FuncId} {ρ:lN} {io:List bc} {args xs:lA} (hnd:ρ.Nodup) (hio:io.length=ρ.length)
 (hlk:∀j (h:j<ρ.length) (h':j<io.length),ah m ρ[j]=some io[j]/\fX io[j]) {vs:aV} (h:RS B N φ fp S ts m a w) (hvl:vs.size=args.length)
 (hx:∀i (h:i<args.length),RV w S (om φ ρ) args[i] (vs.toList.getD i uD)/\∀l af,(l,af)∈ao args[i]->known (mg 0 io) l af) {post:AV->List bc->Prop} (hf:mb P f io args post):
 Calls P f vs w λe w'=>∃v r io' fp2 T,e= .returned v/\post r io'/\RS B N φ fp2 T ts (fF ρ io' m) a w'/\Rd w' T r v:=by
 have inj:∀i j (hi:i<ρ.length) (hj:j<ρ.length),ρ[i]=ρ[j]->i=j:=λi j hi hj e=>(List.getElem_inj hnd).1 e;have look0:∀l,ah (mg 0 io) l=if bC<=l then io[l-bC]? else none:=λl=>by rw [mC];rfl
 have at_:∀l b,ah (mg 0 io) l=some b->∃j,∃hj:j<ρ.length,∃hj':j<io.length,l=bC+j/\b=io[j]:=by
  intro l b hb;rw [look0] at hb;split at hb
  . rename_i hl;obtain ⟨hj,e⟩:=q9.1 hb;exact ⟨l-bC,by omega,hj,by omega,e.symm⟩
  cases hb
 have hR0:RS (Hr w (om φ ρ) (p6 fp ρ) S io) vs.size (om φ ρ) (p6 fp ρ) S (bF 0 args) (mg 0 io) {tmps:=vs,defers:=[]} w:=by
  refine {tm:=λt=> ?_,tl:=λt l af hl=> ?_,b_:=λl hl=> ?_,aG:=λl b hb=> ?_,bl:=λl v xs hb l' af hl=> ?_,ia:=λl=> ?_,fJ:=λl l' b h1 h2=> ?_,
          bQ:=λl b hb=> ?_,cu:=λl b hb=> ?_,sB:=λb hb=>⟨(h.sB b hb).1,.inr hb⟩,base:=λb _ _=>rfl,out:=a7.refl _,kq:=jH.refl _,kn:=λ_ _ _ hk=>hk,fix:=λ_ _ _ _=>LS.le_refl _ _,
          size:=q17 _,defers:=rfl,lq:=rfl,jv:=h.jv}
  . rw [bG];by_cases ht:t<args.length
    . have e:(if 0<=t then (args[t-0]?).getD AV.undef else .undef)=args[t]:=(by simp [ht]);rw [e];have:=(hx t ht).1;have e2:vs.toList.getD t uD=vs.getD t uD:=by
       simp [q6,q0]
      rw [←e2];exact this
    have e:(if 0<=t then (args[t-0]?).getD AV.undef else .undef)= .undef:=(by simp [q8 (show args.length<=t by omega)]);rw [e];exact .rd _ _ (.undef _)
  . rw [bG] at hl;by_cases ht:t<args.length
    . have e:(if 0<=t then (args[t-0]?).getD AV.undef else .undef)=args[t]:=(by simp [ht]);rw [e] at hl;exact (hx t ht).2 l af hl
    have e:(if 0<=t then (args[t-0]?).getD AV.undef else .undef)= .undef:=(by simp [q8 (show args.length<=t by omega)]);rw [e] at hl;cases hl
  . rw [look0] at hl;unfold om p6;split at hl
    . rename_i hl';have:ρ[l-bC]? =none:=q8 (by have:=List.getElem?_eq_none_iff.1 hl;omega);rw [if_pos hl',if_pos hl',this];exact ⟨rfl,rfl⟩
    rename_i hl';rw [if_neg hl',if_neg hl'];exact ⟨rfl,rfl⟩
  . obtain ⟨j,hj,hj',rfl,rfl⟩:=at_ l b hb;have hb0:=h.aG ρ[j] _ (hlk j hj hj').1;have hfr:=(hlk j hj hj').2;rw [wk fp hj];generalize io[j]=b at hb0 hfr;cases b with
    |gone v=>exact ⟨by rw [fY φ hj];exact hb0.1,hb0.2⟩
    |row v sh dp xs=>
     rcases hb0 with ⟨q1,q2,q3⟩|⟨b,cap,q1,q2⟩
     . exact .inl ⟨by rw [fY φ hj];exact q1,q2,q3⟩
     exact .inr ⟨b,cap,by rw [fY φ hj];exact q1,q2⟩
    |kb v xs i u=>exact hfr.elim
    |sub v sh xs u=>exact hfr.elim
    |box v xs=>
     obtain ⟨b,cs,e,sh,q1,q2,q3,q4,q5,q6⟩:=hb0;exact ⟨b,cs,e,sh,by rw [fY φ hj];exact q1,q2,q3,q4,q5,λi hi=>.rd _ _ (cU (q6 i hi) (bM hfr i hi))⟩
  . obtain ⟨j,hj,hj',rfl,e⟩:=at_ l _ hb;have hfr:=(hlk j hj hj').2;rw [←e] at hfr;have hfr:aq xs=[]:=hfr;rw [hfr] at hl;cases hl
  . unfold p6;split
    . split
      . exact h.ia _
      exact q16
    exact q16
  . obtain ⟨i,hi,rfl,b1⟩:=gY h1;obtain ⟨j,hj,rfl,b2⟩:=gY h2;have:=inj i j hi hj (h.fJ _ _ b b1 b2);subst this;rfl
  . obtain ⟨i,hi,rfl,b1⟩:=gY hb;exact h.bQ _ b b1
  obtain ⟨i,hi,rfl,b1⟩:=gY hb;exact ⟨(h.cu _ b b1).1,.inr ⟨_,hb,by omega,.inl rfl⟩⟩
 refine (hf.2 w (om φ ρ) (p6 fp ρ) S vs hvl hR0).mono ?_;rintro e w' ⟨r,v,io',φ',fp',S',m',rfl,gO,hR,⟨hl',hok⟩,hrd⟩;have hl2:io'.length=ρ.length:=hl'.trans hio;have ja:∀b:Nat,b<w.heap.size->(∀j (hj:j<ρ.length),b∉fp ρ[j])->w'.heap[b]? =w.heap[b]? :=λb hb hn=>hR.base b hb λl hb'=>by obtain ⟨j,hj,rfl,hb2⟩:=gY hb';exact hn j hj hb2
 have lf:∀b,S b->w'.heap[b]? =w.heap[b]? :=λb hb=>ja b (h.sB b hb).1 λj hj hb'=>h.bQ _ b hb' hb;have hz:fT φ w w':=λl b sh af cs e _ hb=>hR.kq b cs e hb;have hm2:=λl=>lM (m:=m) ρ io' hl2 hnd l;have hkn:∀l af,known m l af->known (fF ρ io' m) l af:=by
  rintro l af ⟨k',h1,h2⟩;by_cases hl:l∈ρ
  . obtain ⟨j,hj,rfl⟩:=q10 hl;have e:=(hm2 ρ[j]).1 j hj rfl;rw [q7 (by omega)] at e;rw [(hlk j hj (by omega)).1] at h1;have h1:=Option.some.inj h1;exact ⟨_,e,by rw [(hok j (by omega) (by omega)).2.1,h1];exact h2⟩
  exact ⟨k',((hm2 l).2 hl).trans h1,h2⟩
 let T:Nat->Prop:=λb=>S b\/(S' b/\w.heap.size<=b);have hST:∀b,S' b->T b:=λb hb=>by
  rcases (hR.sB b hb).2 with hh|hh
  . exact .inr ⟨hb,hh⟩
  exact .inl hh
 let fp2:Nat->lN:=λl=>match ρ.idxOf? l with|some j=>fp' (bC+j)|none=>fp l
 have fp2in:∀j (hj:j<ρ.length),fp2 ρ[j]=fp' (bC+j):=by
  intro j hj;have:ρ.idxOf? ρ[j]=some j:=by rw [List.idxOf?,List.findIdx?_eq_some_iff_getElem];refine ⟨hj,by simp,λi hi=> ?_⟩;simp only [beq_iff_eq];intro e2;have:=inj i j (by omega) hj e2;omega
  show (match ρ.idxOf? ρ[j] with|some j=>fp' (bC+j)|none=>fp ρ[j])=_;rw [this]
 have fp2out:∀l,l∉ρ->fp2 l=fp l:=by
  intro l hl;have:ρ.idxOf? l=none:=by simpa [List.idxOf?_eq_none_iff] using hl
  show (match ρ.idxOf? l with|some j=>fp' (bC+j)|none=>fp l)=_;rw [this]
 have fpnew:∀j (hj:j<ρ.length) b,b∈fp' (bC+j)->b<w'.heap.size/\(w.heap.size<=b\/b∈fp ρ[j]):=by
  intro j hj b hb;have:=hR.cu _ b hb;refine ⟨this.1,this.2.imp id λhh=> ?_⟩;obtain ⟨l',hb2,_,hl3⟩:=hh;have hl3:l'=bC+j:=hl3.resolve_right λe=>by have e:ah (mg 0 io) (bC+j)=none:=e;rw [look0,if_pos (by omega),List.getElem?_eq_none_iff] at e;omega
  subst hl3;have hh:b∈p6 fp ρ (bC+j):=hb2
  rwa [wk fp hj] at hh
 have hRS:RS B N φ fp2 T ts (fF ρ io' m) a w':=by
  refine {tm:=λt=>(h.tm t).mono lf (λb hb=>.inl hb) hz λl af _=>LS.le_refl _ _,tl:=λt l af hl=>hkn l af (h.tl t l af hl),b_:=λl hl=> ?_,aG:=λl b hb=> ?_,
          bl:=λl v xs hb l' af hl=> ?_,ia:=λl=> ?_,fJ:=λl l' b h1 h2=> ?_,bQ:=λl b hb=> ?_,cu:=λl b hb=> ?_,sB:=λb hb=> ?_,base:=λb hb hio=> ?_,
          out:=h.out.trans hR.out,kq:=h.kq.trans hR.kq,kn:=λl af hl hk=>hkn l af (h.kn l af hl hk),fix:=h.fix,size:=q18 h.size hR.size,defers:=h.defers,lq:=h.lq,jv:=h.jv.mono lf λb hb=>.inl hb}
  . by_cases hm:l∈ρ
    . obtain ⟨j,hj,rfl⟩:=q10 hm;rw [(hm2 ρ[j]).1 j hj rfl,q7 (by omega)] at hl;cases hl
    rw [(hm2 l).2 hm] at hl;rw [fp2out l hm];exact h.b_ l hl
  . by_cases hm:l∈ρ
    . obtain ⟨j,hj,rfl⟩:=q10 hm;rw [(hm2 ρ[j]).1 j hj rfl,q7 (by omega)] at hb;have hb:=Option.some.inj hb;subst hb;obtain ⟨g1,g2,g3⟩:=hok j (by omega) (by omega);have hB:=hR.aG _ _ g1;have VV:known (mg 0 io) (bC+j) (io[j]'(by omega)).af:=⟨io[j]'(by omega),by rw [look0,if_pos (by omega)];simp<;>omega,q17 _⟩;have rD:=hR.fix (bC+j) _ (by omega) VV;have rD:LS.le (φ' (bC+j)) (φ ρ[j]) (io[j]'(by omega)).af:=(by rw [←fY φ hj];exact rD);rw [fp2in j hj];rw [←g2] at rD;generalize io'[j]=b at hB rD g3;cases b with
      |gone v=>exact g3.elim
      |row v sh dp xs=>
       rcases hB with ⟨q1,q2,q3⟩|⟨b,cap,q1,q2,q3,q4⟩
       . exact .inl ⟨rD.2 q1,q2,q3⟩
       refine .inr ⟨b,cap,rD.1 _ _ q1,q2,q3,?_⟩;cases dp with
       |true=>exact q4
       |false=>exact q4.mono (λ_ _=>rfl) hST (λ_ _=>rfl)
      |kb v xs i u=>exact g3.elim
      |sub v sh xs u=>exact g3.elim
      |box v xs=>
       obtain ⟨b,cs,e,sh,q1,q2,q3,q4,q5,q6⟩:=hB;exact ⟨b,cs,e,sh,rD.1 _ _ q1,q2,q3,q4,q5,λi hi=>.rd _ _ ((cU (q6 i hi) (bM g3 i hi)).mono (λ_ _=>rfl) hST)⟩
    rw [(hm2 l).2 hm] at hb;rw [fp2out l hm];refine (h.aG l b hb).mono lf (λb hb=>.inl hb) hz (λc hc=>ja c (h.cu l c hc).1 λj hj hc'=>hm ?_) rfl λ_ _ _ _ _ _=>LS.le_refl _ _;rw [h.fJ _ _ c hc hc'];exact List.getElem_mem hj
  . by_cases hm:l∈ρ
    . obtain ⟨j,hj,rfl⟩:=q10 hm;rw [(hm2 ρ[j]).1 j hj rfl,q7 (by omega)] at hb;have hb:=Option.some.inj hb;have g3:=(hok j (by omega) (by omega)).2.2;rw [hb] at g3;have g3:aq xs=[]:=g3;rw [g3] at hl;cases hl
    rw [(hm2 l).2 hm] at hb;exact hkn l' af (h.bl l v xs hb l' af hl)
  . by_cases hm:l∈ρ
    . obtain ⟨j,hj,rfl⟩:=q10 hm;rw [fp2in j hj];exact hR.ia _
    rw [fp2out l hm];exact h.ia l
  . have mixed:∀j (hj:j<ρ.length) l,l∉ρ->b∈fp' (bC+j)->b∈fp l->False:=by
     intro j hj l hm b1 b2;rcases (fpnew j hj b b1).2 with hh|hh
     . have:=(h.cu l b b2).1;omega
     exact hm (by rw [h.fJ _ _ b b2 hh];exact List.getElem_mem hj)
    by_cases m1:l∈ρ
    . obtain ⟨j,hj,rfl⟩:=q10 m1;rw [fp2in j hj] at h1;by_cases m2:l'∈ρ
      . obtain ⟨j',hj',rfl⟩:=q10 m2;rw [fp2in j' hj'] at h2;have:=hR.fJ _ _ b h1 h2;have:j=j':=(by omega);subst this;rfl
      rw [fp2out l' m2] at h2;exact (mixed j hj l' m2 h1 h2).elim
    rw [fp2out l m1] at h1;by_cases m2:l'∈ρ
    . obtain ⟨j',hj',rfl⟩:=q10 m2;rw [fp2in j' hj'] at h2;exact (mixed j' hj' l m1 h2 h1).elim
    rw [fp2out l' m2] at h2;exact h.fJ l l' b h1 h2
  . by_cases hm:l∈ρ
    . obtain ⟨j,hj,rfl⟩:=q10 hm;rw [fp2in j hj] at hb;rintro (hs|hs)
      . rcases (fpnew j hj b hb).2 with hh|hh
        . have:=(h.sB b hs).1;omega
        exact h.bQ _ b hh hs
      exact hR.bQ _ b hb hs.1
    rw [fp2out l hm] at hb;rintro (hs|hs)
    . exact h.bQ l b hb hs
    have:=(h.cu l b hb).1;omega
  . by_cases hm:l∈ρ
    . obtain ⟨j,hj,rfl⟩:=q10 hm;rw [fp2in j hj] at hb;have:=fpnew j hj b hb;refine ⟨this.1,?_⟩;rcases this.2 with hh|hh
      . exact .inl (q18 h.size hh)
      exact (h.cu _ b hh).2
    rw [fp2out l hm] at hb;have:=h.cu l b hb;exact ⟨q19 this.1 hR.size,this.2⟩
  . rcases hb with hs|hs
    . have:=h.sB b hs;exact ⟨q19 this.1 hR.size,this.2⟩
    exact ⟨(hR.sB b hs.1).1,.inl (q18 h.size hs.2)⟩
  refine (ja b (q19 hb h.size) λj hj hb'=> ?_).trans (h.base b hb hio);rcases (h.cu _ b hb').2 with hh|hh
  . omega
  exact hio _ hh.choose_spec.1
 exact ⟨v,r,io',fp2,T,rfl,gO,hRS,hrd.mono (λ_ _=>rfl) hST⟩
end
def sE (P:Program) (f:FuncId) (ρ:lN) (io:List bc) (args:lA) (m:Mem) (k:AV->Mem->Prop) (_:Pack k):Prop:=
 ∃post,mb P f io args post/\∀r io',post r io'->k r (fF ρ io' m)
@[congr] theorem Q5 {P:Program} {f:FuncId} {ρ:lN} {io io':List bc} {args args':lA} {m:Mem} {k:AV->Mem->Prop} {q:Pack k} (h:io=io') (h':args=args'):sE P f ρ io args m k q=sE P f ρ io' args' m k q:=by rw [h,h']
theorem cg {P:Program} {f:FuncId} {ρ:lN} {io:List bc} {args:lA} {post:AV->List bc->Prop} {m:Mem} {k:AV->Mem->Prop} (h:mb P f io args post) (hk:∀r io',post r io'->k r (fF ρ io' m)) {q:Pack k}:sE P f ρ io args m k q:=
 ⟨_,h,hk⟩
theorem Fu {P:Program} {f:FuncId} {xs:lA} {m:Mem} {k:AV->Mem->Prop} (ρ:lN) (h:oQ m (λio=>n7 ρ (λargs=>sE P f ρ io args m k ⟨⟩) [] xs) [] ρ):h_ P f xs m k:=by refine λB N φ fp S ts a w vs hRS hsz hx hxl=> ?_;obtain ⟨hnd,io,h1,h2,h3⟩:=xU ρ [] h;rw [List.reverse_nil,q15] at h1;obtain ⟨args,g1,g2,g3⟩:=xW (w:=w) (S:=S) (φ:=φ) h2 h3 xs vs.toList [] (by simpa using hsz) hx hxl h1;rw [List.reverse_nil,q15] at g1;obtain ⟨post,hf,hk⟩:=g1;refine ⟨hf.1,(Ft hnd h2 h3 hRS (hsz.trans g2.symm) g3 hf (xs:=xs)).mono ?_⟩;rintro e w' ⟨v,r,io',fp2,T,rfl,gO,hR,hrd⟩;exact ⟨v,rfl,φ,fp2,T,ts,_,r,hR,.rd _ _ hrd,λl af hl=>(by rw [fU hrd] at hl;cases hl),rfl,hk r io' gO⟩
theorem dr {P:Program} {f:FuncId} {d:Nat} {xs ts:lA} {m:Mem} {k:AV->Mem->Prop} (ρ:lN) (h:oQ m (λio=>n7 ρ (λargs=>sE P f ρ io args m k ⟨⟩) [] xs) [] ρ) {q:Pack k}:eR P f d xs ts m k q:=
 .inl (Fu ρ h)
attribute [go_sem] LV
section
variable {P:Program} {N:Nat} {ts:Env} {m:Mem}
theorem RS.U' {B:eC} {φ:Nat->LS} {fp:Nat->lN} {S:nP} {a:Act} {w:World} (hRS:RS B N φ fp S ts m a w) (lb vb j l v i n:Nat) (sh:Sh) (d:Bool) (xs ys:lA) (hl:l<bC) (hb:ah m lb=some (.box vb xs)) (hx:xs[j]? =some (.ref l v i n))
 (hm:ah m l=some (.row v sh d ys)) (hn:i+n<=ys.length):
 RS B N (uV l φ) (Hd l fp) (λb=>S b\/b∈fp l) ts ((lb,.box vb (xs.set j (.arr sh ((ys.drop i).take n))))::(l,.gone v)::m) a w:=by
 have hf:=hRS.XK hl hm (v:=v) rfl;have hne:lb≠l:=by rintro rfl;rw [hb] at hm;cases hm
 obtain ⟨hj,hx'⟩:=q9.1 hx;obtain ⟨b,cs,e,sh2,h1,h2,h3,h4,h5,h6⟩:=hRS.aG lb _ hb;have hrd:=CJ hRS hl hm hn (hx'▸h6 j hj);have hb2:ah ((l,bc.gone v)::m) lb=some (.box vb xs):=by rw [aw,if_neg (Ne.symm hne)];exact hb
 have hkn:∀k af,known ((l,bc.gone v)::m) k af->known ((lb,.box vb (xs.set j (.arr sh ((ys.drop i).take n))))::(l,.gone v)::m) k af:=by
  rintro k af ⟨b0,g1,g2⟩;by_cases e:lb=k
  . subst e;rw [hb2] at g1;injection g1 with g1;subst g1
    exact ⟨.box vb (xs.set j (.arr sh ((ys.drop i).take n))),by rw [aw,if_pos rfl],g2⟩
  exact ⟨b0,by rw [aw,if_neg e];exact g1,g2⟩
 refine {hf with tl:=λt k af hk=>hkn k af (hf.tl t k af hk),b_:=λk hk=> ?_,aG:=λk b0 hk=> ?_,bl:=λk v' zs hk k' af hl'=> ?_,kn:=λk af hk hk2=>hkn k af (hf.kn k af hk hk2)}
 . rw [aw] at hk;split at hk
   . cases hk
   exact hf.b_ k hk
 . rw [aw] at hk;split at hk
   . rename_i e0;subst e0;injection hk with hk
     subst hk;obtain ⟨b',cs',e',sh',g1,g2,g3,g4,g5,g6⟩:=hf.aG lb _ hb2;refine ⟨b',cs',e',sh',g1,g2,g3,by simpa using g4,λq hq=> ?_,λq hq=> ?_⟩
     . rw [List.getElem_set];split
       . trivial
       exact g5 q (by simpa using hq)
     rw [List.getElem_set];split
     . rename_i e2;subst e2;refine .rd _ _ ?_;have hbb:b'=b:=by
        have:uV l φ lb=φ lb:=rW hne;rw [this,h1] at g1;cases g1;rfl
       subst hbb;rw [h3] at g3;injection g3 with g3;injection g3 with g3 _ _
       subst g3;exact hrd
     exact g6 q (by simpa using hq)
   exact hf.aG k b0 hk
 rw [aw] at hk;split at hk
 . rename_i e0;injection hk with hk
   injection hk with _ hk
   subst hk;obtain ⟨q,hq,hlq⟩:=bK hl';rw [List.getElem_set] at hlq;split at hlq
   . cases hlq
   have hq2:q<xs.length:=(by simpa using hq);exact hkn k' af (hf.bl lb vb xs hb2 k' af (bp hq2 hlq))
 exact hkn k' af (hf.bl k v' zs hk k' af hl')
theorem aj.U' {code:Code} {Q:di} {q:Pack (code,Q)} (lb vb j l v i n:Nat) (sh:Sh) (d:Bool) (xs ys:lA) (hl:l<bC) (hb:ah m lb=some (.box vb xs)) (hx:xs[j]? =some (.ref l v i n))
 (hm:ah m l=some (.row v sh d ys)) (hn:i+n<=ys.length)
 (h:aj P N code ts ((lb,.box vb (xs.set j (.arr sh ((ys.drop i).take n))))::(l,.gone v)::m) Q q):aj P N code ts m Q q:=
 ⟨λB φ fp S a w hRS=>h.ok B _ _ _ a w (hRS.U' lb vb j l v i n sh d xs ys hl hb hx hm hn)⟩
end
section
variable {P:Program} {B:eC} {N:Nat} {φ:Nat->LS} {fp:Nat->lN} {S:nP} {ts:Env} {m:Mem} {a:Act} {w:World}
theorem o4 {f:FuncId} {d:Nat} {xs xt:lA} {m:Mem} {k:AV->Mem->Prop} {q:Pack k} {fn:Func} {c:Code} (K J:Nat) (N:Nat) (rs:List ResultVar) (hf:P.funcs[f]? =some fn) (hN:fn.ntmps=N) (hr:fn.results.toList=rs)
 (hn:(fn.name== "runtime.NumGoroutine")=false) (hb:fn.body=some c) (hok:codeOk N c=true) (ha:xs.length≤N)
 (hv:(oS (e6 K [] m) m/\qv (kN (e6 K [] m) m))/\vc P N c (bF 0 (mF (e6 K [] m) xs)) (kN (e6 K [] m) m)
   (Ox P rs λx m'=>sq (e6 J [] m')/\k (so (e6 K [] m) (p7 (e6 J [] m') x)) (sn (e6 K [] m) (kN (e6 J [] m') m')))):eR P f d xs xt m k q:=by
 subst hN;subst hr;refine .inl λB N φ fp S ts a w vs hRS hsz hx hxl=>⟨⟨fn,c,hf,hn,hb⟩,?_⟩;refine (tz J hf hb hok _ hRS hv.1.1 hv.1.2 ha hsz hx hxl hv.2).mono ?_;rintro e w' ⟨v,rfl,φ',fp',S',m',x,g1,g2,g3,g4,_⟩;exact ⟨v,rfl,φ',fp',S',ts,m',x,g1,g2,g3,rfl,g4⟩
end
inductive WB (m:Mem):Mem->Prop
 |refl:WB m m
 |box (lb vb j l v i n:Nat) (sh:Sh) (d:Bool) (xs ys:List AV) (hl:l<bC) (hb:ah m lb=some (.box vb xs)) (hx:xs[j]? =some (.ref l v i n)) (hm:ah m l=some (.row v sh d ys)) (hn:i+n<=ys.length):
   WB m ((lb,.box vb (xs.set j (.arr sh ((ys.drop i).take n))))::(l,.gone v)::m)
end Go.Vc
