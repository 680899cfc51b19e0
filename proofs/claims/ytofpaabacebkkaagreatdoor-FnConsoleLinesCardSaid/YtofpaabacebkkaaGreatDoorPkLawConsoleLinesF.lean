import Derived.WalkKit
import Derived.OwnWalkIn
import Derived.TacticsInMore
import Derived.RegionIn
import Derived.LoopNIn
import Derived.LoopIn
import Derived.Shelf.Abstract
import Derived.Test.YtofpaabacebkkaaGreatDoorPkLawConsoleLinesE
open Go.Proofs.Tryz
open Go.Proofs.Tryz renaming prog → pG
open Go renaming undef → uD
set_option linter.unusedVariables false
set_option linter.unusedSimpArgs false
set_option linter.unnecessarySimpa false
set_option maxRecDepth 1000000
set_option maxHeartbeats 16000000
open Bool renaming and_eq_true->uq0,false_and->uq1,false_eq_true->uq2,true_and->uq3
open List renaming all_eq_true->uq4,drop_succ_cons->uq5,drop_zero->uq6,getD_eq_getElem?_getD->uq7,getElem?_eq_getElem->uq8,getElem_mem->uq9,length_append->bj,length_cons->dR,length_map->b6,length_nil->bI,length_range->bd,map->bm,map_append->cP,map_cons->dw,map_nil->cQ,map_singleton->gW,mem_of_mem_take->fq,range->db,replicate->bt,take->dD,take_length->e7,take_of_length_le->cm,take_succ_cons->ft,take_succ_eq_append_getElem->eX,take_zero->dc
open Nat renaming le_refl->ko,not_lt_zero->DE
open Option renaming isNone_none->GX,isNone_some->GY,toList_none->DF,toList_some->DG
namespace Go.Vc
open Go.Proofs Go.Lib
theorem tX (xs:List lU) (sep:lU) (n:Nat) (h:∀x∈xs,x.length<=n):(Lib.join xs sep).length<=xs.length*(n+sep.length):=by
 cases xs with
 |nil=>simp [join_nil]
 |cons x r=>
  rw [join_length];have hl:∀(l:List lU),(∀x∈l,x.length<=n)->lens l<=l.length*n:=by
   intro l;induction l with
   |nil=>intro _;simp [lens]
   |cons y t ih=>
    intro h;have h1:=h y (List.mem_cons_self ..);have h2:=ih λz hz=>h z (List.mem_cons_of_mem _ hz);simp only [lens,dw,List.sum_cons,dR] at h2 ⊢;rw [Nat.add_mul];omega
  have:=hl (x::r) h;simp only [dR] at this ⊢;rw [Nat.mul_add,Nat.mul_comm sep.length r.length,Nat.add_mul r.length 1 sep.length];generalize (r.length+1)*n=p at*;generalize r.length*sep.length=q at*;omega
theorem rn (xs:List lU) (y sep:lU):Lib.join (xs++[y]) sep=if xs=[] then y else Lib.join xs sep++(sep++y):=by
 cases xs with
 |nil=>simp [join_one]
 |cons x r=>
  rw [if_neg (by simp),List.cons_append,join_cons,join_cons];simp [joinTail]
theorem B5 {xs:lI} (hx:∀x∈xs,jx x) (sep:lU) (hs:sep.length<=10) (h:xs.length<=1048576):(Lib.join (xs.map itoa) sep).length<=32505856:=by
 have h1:=tX (xs.map itoa) sep 21 (by
  intro y hy;obtain ⟨x,hxm,rfl⟩:=List.mem_map.1 hy
  exact bS (hx x hxm))
 rw [b6] at h1;have h2:xs.length*(21+sep.length)<=1048576*31:=Nat.mul_le_mul h (by omega);omega
theorem tY (sep:lU) (hs:sep.length<=10) (xs:lI) (h:xs.length<=1048576) (hx:∀x∈xs,jx x):Fn pG 165 [aP xs,eS sep] true (· =eS (Lib.join (xs.map itoa) sep)):=by
 refine Fn.av 24 [.tmp 4] func165 (hv:= ?_);simp -dsimp -implicitDefEqProofs only [go_sem];refine aj.up [1,9,10] [17,18,19] [8] xs.length (λ_=>True) (λi=>[(5,.ref 8 0 0 i),(11,eI i)]) (λi=>[(8,.row 0 ⟨1,false⟩ true (((xs.take i).map itoa).map eS))]) trivial ?_ rfl (λi hi _=> ?_) (λ_=> ?_)
 . simp -dsimp -implicitDefEqProofs only [go_sem]
 . have gi:=get_some hi;have h64:=hx xs[i] (uq9 hi);have htk:xs.take (i+1)=xs.take i++[xs[i]]:=eX hi;rw [htk];generalize xs[i]=x at*;simp -dsimp -implicitDefEqProofs only [go_sem,aE hi,gi];with_reducible and_intros
   all_goals try omega
   refine aa (k6 h64) ?_;simp -dsimp -implicitDefEqProofs only [go_sem];with_reducible and_intros
   all_goals (first|omega|(refine ⟨?_,?_⟩<;>omega)|exact rfl|(simp;done)|skip)
 have hj:=B5 hx sep hs h;simp -dsimp -implicitDefEqProofs only [go_sem,ay,e7];have e:dD xs.length (bm eS (bm itoa xs))=bm eS (bm itoa xs):=cm (by simp);simp only [e];refine aa (PK (xs.map itoa) sep (by simp;omega) (by omega)) ?_;simp -dsimp -implicitDefEqProofs only [go_sem]
def yX (l:lI):lU:=if l=[] then [45] else Lib.join (l.map itoa) [44]
theorem zN (l:lI) (h:l.length<=100) (hx:∀x∈l,0<=x/\x<=1000000000000):Fn pG 170 [aP l] true (· =eB true):=by
 refine Fn.av 10 [.tmp 2] func170 (hv:= ?_);have hc:=o6 l 0 1000000000000 (by omega);have e:(l.all λx=>bx x 0 1000000000000)=true:=uq4.2 λx hm=>by have:=hx x hm;simp [bx];omega
 rw [e] at hc;have h1:decide ((l.length:Int)<=100)=true:=dT (by omega);simp -dsimp -implicitDefEqProofs only [go_sem,h1];refine aa hc ?_;simp -dsimp -implicitDefEqProofs only [go_sem]
theorem IJ (l:lI) (h:l.length<=100) (hx:∀x∈l,0<=x/\x<=1000000000000):Fn pG 122 [aP l] true (· = .aX [eS (yX l),eI 0]):=by
 refine Fn.av 12 [.tmp 2,.tmp 3] func122 (hv:= ?_);have hc:=zN l h hx;have hj:=tY [44] (by simp) l (by omega) (λx hm=>by have:=hx x hm;unfold jx;omega);simp -dsimp -implicitDefEqProofs only [go_sem];refine aa hc ?_;unfold yX;cases l with
 |nil=>
  have e:((([]:lI).length:Int)==0)=true:=rfl;simp -dsimp -implicitDefEqProofs only [go_sem]
 |cons a r=>
  have e:(((a::r).length:Int)==0)=false:=by rw [beq_eq_false_iff_ne];simp;omega
  rw [if_neg (by simp)];generalize (a::r)=l at*;simp -dsimp -implicitDefEqProofs only [go_sem,e];refine aa hj ?_;simp -dsimp -implicitDefEqProofs only [go_sem]
theorem Mx (l:lI) (h:l.length<=100) (hx:∀x∈l,0<=x/\x<=1000000000000):Fn pG 105 [aP l] true (· =eS (yX l)):=by
 refine Fn.av 26 [.tmp 2] func105 (hv:= ?_);by_cases h0:l=[]
 . subst h0;have e:((([]:lI).length:Int)==0)=true:=rfl;simp -dsimp -implicitDefEqProofs only [go_sem];all_goals (first|exact rfl|skip)
 have hl0:0<l.length:=List.length_pos_iff.2 h0;have e:((l.length:Int)==0)=false:=by rw [beq_eq_false_iff_ne];omega
 have hlen:∀i,(Lib.join ((l.take i).map itoa) [44]).length<=32505856:=λi=>B5 (λx hm=>by have:=hx x (fq hm);unfold jx;omega) [44] (by simp) (by simp;omega);rw [yX,if_neg h0];simp -dsimp -implicitDefEqProofs only [go_sem,e];refine aj.up [0] [10,23] [] l.length (λ_=>True) (λi=>[(3,eS (Lib.join ((l.take i).map itoa) [44])),(4,eI i)]) (λ_=>[]) trivial ?_ rfl (λi hi _=> ?_) (λ_=> ?_)
 . simp -dsimp -implicitDefEqProofs only [go_sem];exact rfl
 . have gi:=get_some hi;have hd:=cC l[i] (by have:=hx _ (uq9 hi);omega);have hil:=bS (v:=l[i]) (by have:=hx _ (uq9 hi);unfold jx;omega);have hln:=hlen i;have hT:Lib.join ((l.take (i+1)).map itoa) [44]=if i=0 then itoa l[i] else Lib.join ((l.take i).map itoa) [44]++([44]++itoa l[i]):=by
    rw [eX hi,cP,gW,rn];by_cases hz:i=0
    . subst hz;simp
    rw [if_neg hz,if_neg];intro e2;have:=congrArg List.length e2;rw [b6,List.length_take,bI] at this;omega
   rw [hT];clear hT;generalize l[i]=x at*;rcases Nat.eq_zero_or_pos i with rfl|hp
   . have d0:decide ((0:Int)>0)=false:=rfl;have dl:decide ((0:Int)<(l.length:Int))=true:=dT (by omega);rw [if_pos rfl];have ez:Lib.join ((l.take 0).map itoa) [44]=[]:=(by rw [dc];rfl);rw [ez];simp -dsimp -implicitDefEqProofs only [go_sem,dl,gi,d0];((with_reducible and_intros);all_goals try omega);refine aa hd ?_;simp -dsimp -implicitDefEqProofs only [go_sem];((with_reducible and_intros);all_goals try first|omega|(refine ⟨?_,?_⟩<;>omega)|exact rfl)
   have d0:decide ((i:Int)>0)=true:=dT (by omega);rw [if_neg (by omega)];generalize Lib.join ((l.take i).map itoa) [44]=o at*;simp -dsimp -implicitDefEqProofs only [go_sem,aE hi,gi,d0];((with_reducible and_intros);all_goals try omega);refine aa hd ?_;simp -dsimp -implicitDefEqProofs only [go_sem];((with_reducible and_intros);all_goals try first|omega|(refine ⟨?_,?_⟩<;>omega)|exact rfl);all_goals first|(simp;done)|skip
 simp -dsimp -implicitDefEqProofs only [go_sem,ay,e7]
def P2 (x:Int):UInt8:=UInt8.ofNat (48+x.toNat)
def k7 (c:lI):lU:=c.map P2
theorem P3 {x:Int} (h:0<=x/\x<=9):((P2 x).toNat:Int)=48+x:=by unfold P2;rw [UInt8.toNat_ofNat'];omega
theorem P4 {x:Int} (h:0<=x/\x<=9):itoa x=[P2 x]:=by rw [fg h.1,J1 (by omega)];rfl
theorem My:∀(c:lI),(∀x∈c,0<=x/\x<=9)->Lib.join (c.map itoa) []=k7 c:=by
 intro c hc;have hf:∀(c:lI),(∀x∈c,0<=x/\x<=9)->(c.map itoa).flatten=k7 c:=by
  intro c;induction c with
  |nil=>intro _;rfl
  |cons x r ih=>
   intro h;rw [dw,List.flatten_cons,P4 (h x (List.mem_cons_self ..)),ih λy hy=>h y (List.mem_cons_of_mem _ hy)];rfl
 rw [←hf c hc];cases c with
 |nil=>rfl
 |cons x r=>
  rw [dw,join_cons,joinTail,List.flatten_cons];congr 2;simp
theorem pZ (c:lI) (h:c.length<=1048576) (hx:∀x∈c,0<=x/\x<=9):Fn pG 66 [aP c] true (· =eS (k7 c)):=by
 refine Fn.av 23 [.tmp 2] func66 (hv:= ?_);simp -dsimp -implicitDefEqProofs only [go_sem];refine aj.up [0] [8,19,20] [5] c.length (λ_=>True) (λi=>[(3,.ref 5 0 0 i),(4,eI i)]) (λi=>[(5,.row 0 ⟨1,false⟩ true ((k7 (c.take i)).map eY))]) trivial ?_ rfl (λi hi _=> ?_) (λ_=> ?_)
 . simp -dsimp -implicitDefEqProofs only [go_sem];all_goals first|rfl|skip
 . have gi:=get_some hi;have hb:=hx c[i] (uq9 hi);have htk:k7 (c.take (i+1))=k7 (c.take i)++[P2 c[i]]:=by
    rw [eX hi,k7,cP];rfl
   have hln:(k7 (c.take i)).length=i:=(by simp [k7];omega);rw [htk,cP,gW];clear htk;generalize k7 (c.take i)=K at*;generalize c[i]=x at*;have hw:IntKind.u8.wrap (48+x)=48+x:=pY (by omega);have hd:=P3 hb;have tK:dD i (K.map eY)=K.map eY:=cm (by simp [hln]);simp -dsimp -implicitDefEqProofs only [go_sem,aE hi,gi,hw,tK];((with_reducible and_intros);all_goals try first|omega|(refine ⟨?_,?_⟩<;>omega)|exact rfl);all_goals first|(simp;omega)|skip
 have hln:(k7 c).length=c.length:=by simp [k7]
 rw [e7];have tK:dD c.length ((k7 c).map eY)=(k7 c).map eY:=cm (by simp [hln]);simp -dsimp -implicitDefEqProofs only [go_sem,ay,tK];(all_goals try omega)
def W7 (m:aL) (c:lI):lU × Int:=if aW m=true then if fault m c=0 then (k7 c,0) else ([],2) else ([],1)
theorem B6 {m:aL} (hm:aW m=true) {c:lI} (h:fault m c=0):∀x∈c,0<=x/\x<=9:=by have hk:=qy.PU h;have hn:=aI hm;intro x hx;have:=hk.el x hx;omega
theorem Mz (m:aL) (c:lI) (h:c.length<=1048576):Fn pG 124 [ky m,aP c] true (· = .aX [eS (W7 m c).1,eI (W7 m c).2]):=by
 refine Fn.av 16 [.tmp 4,.tmp 5] func124 (hv:= ?_);have hc:=vC m c h;unfold W7;by_cases hm:aW m=true
 . rw [if_pos hm] at hc ⊢;by_cases hf:fault m c=0
   . rw [if_pos hf] at hc ⊢;have hd:=B6 hm hf;have hj:=tY [] (by simp) c h (λx hx=>by have:=hd x hx;unfold jx;omega);rw [My c hd] at hj;have e:((0:Int) != 0)=false:=rfl;simp -dsimp -implicitDefEqProofs only [go_sem];refine aa hc ?_;simp -dsimp -implicitDefEqProofs only [go_sem,e];refine aa hj ?_;simp -dsimp -implicitDefEqProofs only [go_sem]
   rw [if_neg hf] at hc ⊢;have e:((2:Int) != 0)=true:=rfl;simp -dsimp -implicitDefEqProofs only [go_sem];refine aa hc ?_;simp -dsimp -implicitDefEqProofs only [go_sem,e]
 rw [if_neg hm] at hc ⊢;have e:((1:Int) != 0)=true:=rfl;simp -dsimp -implicitDefEqProofs only [go_sem];refine aa hc ?_;simp -dsimp -implicitDefEqProofs only [go_sem,e]
def bq (s:lU):lI:=s.map λb=>(b.toNat:Int)-48
def j_ (m:aL) (s:lU):lI × Int:=if aW m=true then if fault m (bq s)=0 then (bq s,0) else ([],6) else ([],1)
theorem da (s:lU):(bq s).length=s.length:=by simp [bq]
theorem IK {m:aL} (hm:aW m=true) {s:lU} (h:fault m (bq s)=0):s.all dO=true:=by have hd:=B6 hm h;rw [uq4];intro b hb;have:=hd _ (List.mem_map_of_mem (f:=λb:UInt8=>(b.toNat:Int)-48) hb);simp [dO];omega
theorem MA (m:aL) (hm:aW m=true) (s:lU) (h:s.length<=1048576):Fn pG 167 [ky m,eS s] true (· = .aX [aP (bq s),eB (fC m (bq s))]):=by
 refine Fn.av 27 [.tmp 4,.tmp 5] func167 (hv:= ?_);have hk:=C' m (bq s) hm (by rw [da];exact h);simp -dsimp -implicitDefEqProofs only [go_sem];refine aj.up [1,2,10] [20,21] [8] s.length (λ_=>True) (λi=>[(6,.ref 8 0 0 i),(11,eI i)]) (λi=>[(8,.row 0 ⟨1,false⟩ true ((bq (s.take i)).map eI))]) trivial ?_ rfl (λi hi _=> ?_) (λ_=> ?_)
 . simp -dsimp -implicitDefEqProofs only [go_sem];all_goals first|rfl|skip
 . have hg:(s.getD i 0)=s[i]:=(by rw [uq7,uq8 hi];rfl);have hb:=(s[i]).toNat_lt;have htk:bq (s.take (i+1))=bq (s.take i)++[(s[i].toNat:Int)-48]:=by
    rw [eX hi,bq,cP];rfl
   have hln:(bq (s.take i)).length=i:=(by rw [da,List.length_take];omega);rw [htk,cP,gW];clear htk;generalize bq (s.take i)=K at*;generalize s[i]=b at*;have tK:dD i (K.map eI)=K.map eI:=cm (by simp [hln]);simp -dsimp -implicitDefEqProofs only [go_sem,aE hi,hg,tK];((with_reducible and_intros);all_goals try first|omega|(refine ⟨?_,?_⟩<;>omega)|exact rfl)
 rw [e7];have hln:=da s;have tK:dD s.length ((bq s).map eI)=(bq s).map eI:=cm (by simp [hln]);simp -dsimp -implicitDefEqProofs only [go_sem,ay,tK];((with_reducible and_intros);all_goals try omega);refine aa hk ?_;simp -dsimp -implicitDefEqProofs only [go_sem,tK];((with_reducible and_intros);all_goals try omega);all_goals first|(simp;done)|skip
theorem yY (m:aL) (s:lU) (h:s.length<=1048576):Fn pG 120 [ky m,eS s] true (· = .aX [aP (j_ m s).1,eI (j_ m s).2]):=by
 refine Fn.av 20 [.tmp 4,.tmp 5] func120 (hv:= ?_);unfold j_;rcases hm:aW m with _|_
 . have hi:=eU m;rw [hm] at hi;rw [if_neg (by simp)];simp -dsimp -implicitDefEqProofs only [go_sem];refine aa hi ?_;simp -dsimp -implicitDefEqProofs only [go_sem]
 have hi:=eU m;rw [hm] at hi;have hr:=MA m hm s h;have hln:=da s;rw [if_pos rfl];simp -dsimp -implicitDefEqProofs only [go_sem];refine aa hi ?_;simp -dsimp -implicitDefEqProofs only [go_sem];refine aa hr ?_;by_cases hf:fault m (bq s)=0
 . have e:fC m (bq s)=true:=beq_iff_eq.2 hf;rw [if_pos hf];simp -dsimp -implicitDefEqProofs only [go_sem,e];all_goals first|(simp;done)|skip
 have e:fC m (bq s)=false:=beq_eq_false_iff_ne.2 hf;rw [if_neg hf];simp -dsimp -implicitDefEqProofs only [go_sem,e]
theorem B7 (s:lU) (h:s.length<=1048576):Fn pG 135 [eS s] true (· = .aX [aP (if s.all dO=true then bq s else []),eB (s.all dO)]):=by
 refine Fn.av 32 [.tmp 2,.tmp 3] func135 (hv:= ?_);simp -dsimp -implicitDefEqProofs only [go_sem];refine aj.up [0] [9,29,30] [6] s.length (λi=>(s.take i).all dO=true) (λi=>[(4,.ref 6 0 0 i),(5,eI i)]) (λi=>[(6,.row 0 ⟨1,false⟩ true ((bq (s.take i)).map eI))]) rfl ?_ rfl (λi hi hI=> ?_) (λhI=> ?_)
 . simp -dsimp -implicitDefEqProofs only [go_sem];all_goals first|rfl|skip
 . have hg:(s.getD i 0)=s[i]:=(by rw [uq7,uq8 hi];rfl);have hb:=(s[i]).toNat_lt;have cO:=dy dO s i hi;have hno:=λh=>gP (p:=dO) hi h;have hd:=IH s[i];have htk:bq (s.take (i+1))=bq (s.take i)++[(s[i].toNat:Int)-48]:=by
    rw [eX hi,bq,cP];rfl
   have hln:(bq (s.take i)).length=i:=(by rw [da,List.length_take];omega);rw [htk,cP,gW];clear htk;generalize bq (s.take i)=K at*;have tK:dD i (K.map eI)=K.map eI:=cm (by simp [hln]);generalize s[i]=b at*;rcases d1:decide ((b.toNat:Int)<48) with _|_
   . rcases d2:decide ((b.toNat:Int)>57) with _|_
     . have e1:=of_decide_eq_false d1;have hw:IntKind.u8.wrap ((b.toNat:Int)-48)=(b.toNat:Int)-48:=pY (by have:=of_decide_eq_false d2;omega);simp -dsimp -implicitDefEqProofs only [go_sem,aE hi,hg,d1,d2,hw,tK];((with_reducible and_intros);all_goals try first|omega|(refine ⟨?_,?_⟩<;>omega)|exact rfl);all_goals first|(rw [cO,hI];show dO b=true;rw [dO,hd,d1,d2];rfl)|skip
     have hz:=hno (by rw [dO,hd,d1,d2];rfl);rw [hz,if_neg (by simp)];simp -dsimp -implicitDefEqProofs only [go_sem,aE hi,hg,d1,d2];((with_reducible and_intros);all_goals try omega)
   have hz:=hno (by rw [dO,hd,d1];rfl);rw [hz,if_neg (by simp)];simp -dsimp -implicitDefEqProofs only [go_sem,aE hi,hg,d1];((with_reducible and_intros);all_goals try omega)
 rw [e7] at hI ⊢;rw [hI,if_pos rfl];have hln:=da s;have tK:dD s.length ((bq s).map eI)=(bq s).map eI:=cm (by simp [hln]);simp -dsimp -implicitDefEqProofs only [go_sem,ay,tK];((with_reducible and_intros);all_goals try omega);all_goals first|(simp;done)|skip
theorem yZ (m:aL) (s:lU) (h:s.length<=1048576):Fn pG 103 [ky m,eS s] true (· = .aX [aP (j_ m s).1,eI (j_ m s).2]):=by
 refine Fn.av 25 [.tmp 4,.tmp 5] func103 (hv:= ?_);unfold j_;have hi:=fB m;rcases hm:aW m with _|_
 . rw [hm] at hi;rw [if_neg (by simp)];simp -dsimp -implicitDefEqProofs only [go_sem];refine aa hi ?_;simp -dsimp -implicitDefEqProofs only [go_sem]
 rw [hm] at hi;have hr:=B7 s h;have hln:=da s;have hft:=nF m (bq s) hm (by omega);rw [if_pos rfl];rcases hd:s.all dO with _|_
 . rw [hd,if_neg (by simp)] at hr;have hf:¬fault m (bq s)=0:=λe=>by rw [IK hm e] at hd;cases hd
   rw [if_neg hf];simp -dsimp -implicitDefEqProofs only [go_sem];refine aa hi ?_;simp -dsimp -implicitDefEqProofs only [go_sem];refine aa hr ?_;simp -dsimp -implicitDefEqProofs only [go_sem]
 rw [hd,if_pos rfl] at hr;have tK:dD (bq s).length ((bq s).map eI)=(bq s).map eI:=cm (by simp);by_cases hf:fault m (bq s)=0
 . have e:((0:Int) != 0)=false:=rfl;rw [hf] at hft;rw [if_pos hf];simp -dsimp -implicitDefEqProofs only [go_sem];refine aa hi ?_;simp -dsimp -implicitDefEqProofs only [go_sem];refine aa hr ?_;simp -dsimp -implicitDefEqProofs only [go_sem,tK];refine aa hft ?_;simp -dsimp -implicitDefEqProofs only [go_sem,e,tK];all_goals first|(simp;done)|skip
 have e:(fault m (bq s) != 0)=true:=bne_iff_ne.2 hf;rw [if_neg hf];simp -dsimp -implicitDefEqProofs only [go_sem];refine aa hi ?_;simp -dsimp -implicitDefEqProofs only [go_sem];refine aa hr ?_;simp -dsimp -implicitDefEqProofs only [go_sem,tK];refine aa hft ?_;simp -dsimp -implicitDefEqProofs only [go_sem,e]
def pf (w:Nat) (s:lU):lU:=bt (w-s.length) 48++s
def J3 (series n:Int):Int:=(100*n+series).tmod 97
def tZ (w:Nat) (series n:Int):lU:=[UInt8.ofNat (65+series).toNat]++pf w (itoa n)++[45]++pf 2 (itoa (J3 series n))
def P5 (s:lU):Nat->Int
 |0=>0
 |i+1=>P5 s i*10+((s.getD (i+1) 0).toNat:Int)-48
theorem IL (s:lU):∀i, -(29*10^i-29)<=P5 s i/\P5 s i<=29*10^i-29
 |0=>by simp [P5]
 |i+1=>by
  have ih:=IL s i;have hb:=(s.getD (i+1) 0).toNat_lt;have e:(10:Int)^(i+1)=10*10^i:=by rw [Int.pow_succ,Int.mul_comm]
  simp only [P5];rw [e];generalize (s.getD (i+1) 0).toNat=x at*;generalize (10:Int)^i=p at*;omega
theorem P6 {x:Int} (h:0<=x/\x<256):IntKind.i32.wrap x=x:=by simp [IntKind.wrap,IntKind.bits,IntKind.signed];omega
theorem B8:∀k,Lib.repeatL [48] k=bt k 48
 |0=>rfl
 |k+1=>by rw [Lib.repeatL,B8 k,List.replicate_succ];rfl
theorem MB (k:Nat) (h:k<=1000000):Fn pG 264 [eS [48],eI k] true (· =eS (bt k 48)):=by refine Fn.plain [.string ⟨[48].toArray⟩,.int .i64 k] ⟨Tryz.f264,_,func264,by decide,rfl⟩ λw S hk=> ?_;refine (Any.strings_Repeat Tryz.L2 Tryz.FB ⟨[48].toArray⟩ k w (by omega) (by simp [pP];omega)).mono ?_;rintro e w' ⟨rfl,hb⟩;rw [nB,B8];exact ⟨_,[],rfl,Grown.o7 hb,qW rfl,List.nodup_nil,λb hb=>by cases hb⟩
theorem sX (n:Int) (w:Nat) (hn:0<=n/\n<=1000000) (hw:w<=1000):Fn pG 229 [eI n,eI w] true (· =eS (pf w (itoa n))):=by
 refine Fn.av 16 [.tmp 4] func229 (hv:= ?_);have ht:=k6 (n:=n) ⟨by omega,by omega⟩;have hl:=bS (v:=n) ⟨by omega,by omega⟩;have hmx:(if (w:Int)-((itoa n).length:Int)>0 then (w:Int)-((itoa n).length:Int) else 0)=((w-(itoa n).length:Nat):Int):=by split<;>omega
 have hr:=MB (w-(itoa n).length) (by omega);simp -dsimp -implicitDefEqProofs only [go_sem];(refine aa (ht) ?_;try simp -dsimp -implicitDefEqProofs only [go_sem, *]);((with_reducible and_intros);all_goals try ((refine ⟨?_,?_⟩<;>omega)));refine aa hr ?_;simp -dsimp -implicitDefEqProofs only [go_sem];refine ⟨by simp;omega,by exact rfl⟩
theorem MC (se n:Int) (h:0<=se/\se<=25) (hn:0<=n/\n<=9999999999):Fn pG 230 [eI se,eI n] true (· =eI (J3 se n)):=by refine Fn.av 10 [.tmp 4] func230 (hv:= ?_);simp -dsimp -implicitDefEqProofs only [go_sem];((with_reducible and_intros);all_goals try first|omega|(refine ⟨?_,?_⟩<;>omega)|exact rfl)
theorem IM (se n:Int) (h:0<=se/\se<=25) (hn:0<=n/\n<=9999999999):Fn pG 200 [eI se,eI n] true (· =eI (J3 se n)):=by refine Fn.av 10 [.tmp 4] func200 (hv:= ?_);simp -dsimp -implicitDefEqProofs only [go_sem];((with_reducible and_intros);all_goals try first|omega|(refine ⟨?_,?_⟩<;>omega)|exact rfl)
theorem B9 {se n:Int} (h:0<=se/\se<=25) (hn:0<=n/\n<=1000000):0<=J3 se n/\J3 se n<=96:=by unfold J3;rw [Int.tmod_eq_emod_of_nonneg (by omega)];omega
theorem F1 (K se n:Int) (hK:0<=K/\K<=1000000) (h:0<=se/\se<=25) (hn:0<=n/\n<=1000000):Fn pG 177 [eI K,eI se,eI n] true (· =eS (tZ (itoa K).length se n)):=by
 refine Fn.av 23 [.tmp 6] func177 (hv:= ?_);have ht:=k6 (n:=K) ⟨by omega,by omega⟩;have hl:=bS (v:=K) ⟨by omega,by omega⟩;have hd:=sX n (itoa K).length hn (by omega);have hc:=MC se n h (by omega);have hcb:=B9 h hn;have hd2:=sX (J3 se n) 2 (by omega) (by omega);have hw:IntKind.i32.wrap (65+se)=65+se:=P6 (by omega);have hpl:(pf (itoa K).length (itoa n)).length<=50:=by have:=bS (v:=n) ⟨by omega,by omega⟩;simp [pf];omega
 have YQ:(pf 2 (itoa (J3 se n))).length<=50:=by have:=bS (v:=J3 se n) ⟨by omega,by omega⟩;simp [pf];omega
 unfold tZ;generalize pf (itoa K).length (itoa n)=A at*;generalize pf 2 (itoa (J3 se n))=Bs at*;simp -dsimp -implicitDefEqProofs only [go_sem,hw];refine ⟨⟨by omega,by omega⟩,by omega,?_⟩;(refine aa (ht) ?_;try simp -dsimp -implicitDefEqProofs only [go_sem, *]);(refine aa (hd) ?_;try simp -dsimp -implicitDefEqProofs only [go_sem, *]);((with_reducible and_intros);all_goals try omega);all_goals try (refine aa (hc) ?_;try simp -dsimp -implicitDefEqProofs only [go_sem, *])
 all_goals try (refine aa (hd2) ?_;try simp -dsimp -implicitDefEqProofs only [go_sem, *])
 (all_goals try omega)
theorem F2 (n:Int) (w:Nat) (hn:0<=n/\n<=1000000) (hw:w<=1000):Fn pG 198 [eI n,eI w] true (· =eS (pf w (itoa n))):=by
 refine Fn.av 15 [.tmp 4] func198 (hv:= ?_);have ht:=cC n ⟨by omega,by omega⟩;have hl:=bS (v:=n) ⟨by omega,by omega⟩;unfold pf;generalize itoa n=A at*;simp -dsimp -implicitDefEqProofs only [go_sem];(refine aa (ht) ?_;try simp -dsimp -implicitDefEqProofs only [go_sem, *]);refine aj.up [1] [9] [] (w-A.length) (λ_=>True) (λi=>[(5,eS (bt i 48++A))]) (λ_=>[]) trivial ?_ rfl (λi hi _=> ?_) (λ_=> ?_)
 . simp -dsimp -implicitDefEqProofs only [go_sem]
 . have hlt:decide (((i+A.length:Nat):Int)<(w:Int))=true:=dT (by omega);have hlen:(bt i (48:UInt8)++A).length=i+A.length:=(by simp);rw [List.replicate_succ];simp -dsimp -implicitDefEqProofs only [go_sem,hlen,hlt];(all_goals try omega)
 have hlt:decide (((w-A.length+A.length:Nat):Int)<(w:Int))=false:=dF (by omega);have hlen:(bt (w-A.length) (48:UInt8)++A).length=w-A.length+A.length:=by simp
 simp -dsimp -implicitDefEqProofs only [go_sem,hlen,hlt]
theorem jG (m:aL) (hm:aW m=true):lR m m.ae.toNat []<=262144:=by have s8:=aI hm;have:=Db m hm m.ae.toNat [];have:8^m.ae.toNat<=8^6:=Nat.pow_le_pow_right (by decide) (by omega);omega
theorem lY (m:aL) (hm:aW m=true):Fn pG 143 [ky m,SR] true (· =eI (lR m m.ae.toNat [])):=
 (yP m hm m.ae.toNat [] (by have:=aI hm;simp;omega) (λx hx=>by cases hx)).Mb (.cons (.refl _) (.cons (.nil _) .nil))
theorem F3 (m:aL) (hm:aW m=true):Fn pG 199 [ky m] true (· =eI ((itoa (lR m m.ae.toNat [])).length)):=by refine Fn.av 7 [.tmp 2] func199 (hv:= ?_);have hc:=lY m hm;have hb:=jG m hm;generalize lR m m.ae.toNat []=N at*;have ht:=cC (N:Int) ⟨by omega,by omega⟩;simp -dsimp -implicitDefEqProofs only [go_sem];(refine aa (hc) ?_;try simp -dsimp -implicitDefEqProofs only [go_sem, *]);repeat' (refine aa (ht) ?_;try simp -dsimp -implicitDefEqProofs only [go_sem, *])
theorem MD (m:aL) (hm:aW m=true) (se n:Int) (h:0<=se/\se<=25) (hn:0<=n/\n<=1000000):Fn pG 152 [ky m,eI se,eI n] true (· =eS (tZ (itoa (lR m m.ae.toNat [])).length se n)):=by
 refine Fn.av 23 [.tmp 6] func152 (hv:= ?_);have hc:=F3 m hm;have hb:=jG m hm;generalize lR m m.ae.toNat []=N at*;have hl:=bS (v:=(N:Int)) ⟨by omega,by omega⟩;have hp:=F2 n (itoa N).length hn (by omega);have hk:=IM se n h (by omega);have hcb:=B9 h hn;have hp2:=F2 (J3 se n) 2 (by omega) (by omega);have hw:IntKind.u8.wrap (65+se)=65+se:=pY (by omega);have hpl:(pf (itoa N).length (itoa n)).length<=50:=by have:=bS (v:=n) ⟨by omega,by omega⟩;simp [pf];omega
 have YQ:(pf 2 (itoa (J3 se n))).length<=50:=by have:=bS (v:=J3 se n) ⟨by omega,by omega⟩;simp [pf];omega
 unfold tZ;generalize pf (itoa N).length (itoa n)=A at*;generalize pf 2 (itoa (J3 se n))=Bs at*;simp -dsimp -implicitDefEqProofs only [go_sem];refine aj.draw mixed rfl ?_;simp -dsimp -implicitDefEqProofs only [go_sem,hw];refine ⟨⟨by omega,by omega⟩,by omega,?_⟩;(refine an (hc) ?_;try simp -dsimp -implicitDefEqProofs only [go_sem, *]);(refine an (hp) ?_;try simp -dsimp -implicitDefEqProofs only [go_sem, *]);((with_reducible and_intros);all_goals try omega);all_goals try (refine an (hk) ?_;try simp -dsimp -implicitDefEqProofs only [go_sem, *])
 all_goals try (refine an (hp2) ?_;try simp -dsimp -implicitDefEqProofs only [go_sem, *])
 ((with_reducible and_intros);all_goals try first|omega|exact rfl)
theorem getD_in {s:lU} {i:Nat} (h:i<s.length):s.getD i 0=s[i]:=by simp [uq7,h]
def iM (m:aL):Int:=lR m m.ae.toNat []
def iZ:lU:=[102,97,108,115,101]
def e_:lU:=[103,104,111,115,116,115]
def eu:lU:=[119,111,114,115,116]
def fQ:lU:=[99,111,117,110,116]
def dm:lU:=[119,97,102,101,114,115]
def iI:lU:=[100,114,111,112]
def gZ:lU:=[102,105,110,100]
def je:lU:=[108,111,99,107]
def dX:lU:=[115,116,97,109,112]
def gU:lU:=[109,97,107,101,114]
def dv:lU:=[111,112,101,110,115]
def k8:lU:=[107,101,121]
def cD (w:lU):Int:=
 if w=iZ then 0 else if w=e_ then 0 else if w=eu then 0 else if w=fQ then 0 else if w=dm then 0
 else if w=iI then 1 else if w=gZ then 1 else if w=je then 1
 else if w=dX then 2 else if w=gU then 5 else if w=dv then 11 else if w=k8 then 12 else -1
def P7 (w:lU):Int:=if cD w<0 then 0 else (cD w).tmod 10+1
theorem F4 (w:lU):cD w= -1\/cD w=0\/cD w=1\/cD w=2\/cD w=5\/(cD w=11/\w=dv)\/(cD w=12/\w=k8):=by
 unfold cD;rcases Classical.em (w=iZ) with h|h
 . simp only [if_pos h];simp [h]
 simp only [if_neg h];clear h;rcases Classical.em (w=e_) with h|h
 . simp only [if_pos h];simp [h]
 simp only [if_neg h];clear h;rcases Classical.em (w=eu) with h|h
 . simp only [if_pos h];simp [h]
 simp only [if_neg h];clear h;rcases Classical.em (w=fQ) with h|h
 . simp only [if_pos h];simp [h]
 simp only [if_neg h];clear h;rcases Classical.em (w=dm) with h|h
 . simp only [if_pos h];simp [h]
 simp only [if_neg h];clear h;rcases Classical.em (w=iI) with h|h
 . simp only [if_pos h];simp [h]
 simp only [if_neg h];clear h;rcases Classical.em (w=gZ) with h|h
 . simp only [if_pos h];simp [h]
 simp only [if_neg h];clear h;rcases Classical.em (w=je) with h|h
 . simp only [if_pos h];simp [h]
 simp only [if_neg h];clear h;rcases Classical.em (w=dX) with h|h
 . simp only [if_pos h];simp [h]
 simp only [if_neg h];clear h;rcases Classical.em (w=gU) with h|h
 . simp only [if_pos h];simp [h]
 simp only [if_neg h];clear h;rcases Classical.em (w=dv) with h|h
 . simp only [if_pos h];simp [h]
 simp only [if_neg h];clear h;rcases Classical.em (w=k8) with h|h
 . simp only [if_pos h];simp [h]
 simp only [if_neg h];clear h;simp
theorem F5:cD dv=11:=by decide
theorem ME:cD k8=12:=by decide
def d_ (s:lU):List lU × lI × Bool:=
 if cD ((cT 32 s).headD [])<0\/((cT 32 s).length:Int)≠(cD ((cT 32 s).headD [])).tmod 10+1 then ([],[],false)
 else if 10<=cD ((cT 32 s).headD []) then (cT 32 s,[],true)
 else if (((cT 32 s).drop 1).all λw=>(dU w).2)=true then (cT 32 s,((cT 32 s).drop 1).map λw=>(dU w).1,true)
 else ([],[],false)
theorem t_ (w:lU):((p8 w).2=true/\0<=(p8 w).1/\w.length<=13)↔(dU w).2=true:=by
 constructor
 . rintro ⟨h1,h2,h3⟩;obtain ⟨q1,q2⟩:=BN h1;have hw:w=decDigits (p8 w).1.toNat:=(by rw [←fg h2];exact q2);have:nDigits (p8 w).1.toNat<=13:=by
    have e:=congrArg List.length hw;rw [decDigits_length] at e;omega
   rw [hw,PE this]
 intro h;obtain ⟨h1,h2⟩:=tN h;have hl:w.length<=13:=by
  unfold dU at h;split at h
  . cases h
  omega
 have h64:jx (dU w).1:=by
  have hd:∀c∈w,48<=c.toNat/\c.toNat<=57:=by intro c hc;rw [fg h1] at h2;exact pQ _ c (by rw [←h2];exact hc)
  have hb:=sH w 0 hd;have hp:10^w.length<=10000000000000:=J2 hl;have hv:(dU w).1=(jP 0 w:Nat):=by
   unfold dU at h ⊢;split
   . rename_i hc;rw [if_pos hc] at h;cases h
   rename_i hc;rw [if_neg hc] at h;split
   . rfl
   rename_i hd2;rw [if_neg hd2] at h;cases h
  rw [hv];unfold jx;omega
 have e:=L7 h64;rw [←h2] at e;rw [e];exact ⟨rfl,h1,hl⟩
theorem Df {w:lU} (h:(dU w).2=true):(p8 w).1=(dU w).1:=by
 obtain ⟨h1,h2,h3⟩:=(t_ w).2 h;obtain ⟨q1,q2⟩:=BN h1;obtain ⟨v1,v2⟩:=tN h;have h64:jx (dU w).1:=by
  have hd:∀c∈w,48<=c.toNat/\c.toNat<=57:=by intro c hc;rw [fg v1] at v2;exact pQ _ c (by rw [←v2];exact hc)
  have hb:=sH w 0 hd;have hp:10^w.length<=10000000000000:=J2 h3;have hv:(dU w).1=(jP 0 w:Nat):=by
   unfold dU at h ⊢;split
   . rename_i hc;rw [if_pos hc] at h;cases h
   rename_i hc;rw [if_neg hc] at h;split
   . rfl
   rename_i hd2;rw [if_neg hd2] at h;cases h
  rw [hv];unfold jx;omega
 exact PD q1 h64 (q2.symm.trans v2)
theorem MF (w:lU):Fn pG 70 [eS w] true (· =eI (cD w)):=by
 refine Fn.av 22 [.tmp 2] func70 (hv:= ?_);unfold cD iZ e_ eu fQ dm iI gZ je dX gU dv k8;simp -dsimp -implicitDefEqProofs only [go_sem];repeat' (refine Br.intro (λ_=> ?_) (λ_=> ?_)<;>try simp -dsimp -implicitDefEqProofs only [go_sem, *])
 all_goals first
  |(simp only [decide_eq_true_eq,decide_eq_false_iff_not] at*;subst_vars;simp;done)
  |(simp only [decide_eq_false_iff_not] at*;simp [*];done)
  |skip
theorem F6 (w:lU):Fn pG 68 [eS w] true (· =eI (P7 w)):=by
 refine Fn.av 20 [.tmp 2] func68 (hv:= ?_)
 have hk:P7 w=if w=iZ then 1 else if w=e_ then 1 else if w=eu then 1 else if w=fQ then 1 else if w=dm then 1
  else if w=iI then 2 else if w=gZ then 2 else if w=je then 2
  else if w=dv then 2 else if w=k8 then 3 else if w=dX then 3 else if w=gU then 6 else 0:=by
  unfold P7 cD;rcases Classical.em (w=iZ) with h|h
  . subst h;decide
  simp only [if_neg h];clear h;rcases Classical.em (w=e_) with h|h
  . subst h;decide
  simp only [if_neg h];clear h;rcases Classical.em (w=eu) with h|h
  . subst h;decide
  simp only [if_neg h];clear h;rcases Classical.em (w=fQ) with h|h
  . subst h;decide
  simp only [if_neg h];clear h;rcases Classical.em (w=dm) with h|h
  . subst h;decide
  simp only [if_neg h];clear h;rcases Classical.em (w=iI) with h|h
  . subst h;decide
  simp only [if_neg h];clear h;rcases Classical.em (w=gZ) with h|h
  . subst h;decide
  simp only [if_neg h];clear h;rcases Classical.em (w=je) with h|h
  . subst h;decide
  simp only [if_neg h];clear h;rcases Classical.em (w=dX) with h|h
  . subst h;decide
  simp only [if_neg h];clear h;rcases Classical.em (w=gU) with h|h
  . subst h;decide
  simp only [if_neg h];clear h;rcases Classical.em (w=dv) with h|h
  . subst h;decide
  simp only [if_neg h];clear h;rcases Classical.em (w=k8) with h|h
  . subst h;decide
  simp only [if_neg h];clear h;decide
 rw [hk];clear hk;unfold iZ e_ eu fQ dm iI gZ je dX gU dv k8;simp -dsimp -implicitDefEqProofs only [go_sem];repeat' (refine Br.intro (λ_=> ?_) (λ_=> ?_)<;>try simp -dsimp -implicitDefEqProofs only [go_sem, *])
 all_goals first
  |(simp only [decide_eq_true_eq,decide_eq_false_iff_not] at*;subst_vars;simp;done)
  |(simp only [decide_eq_false_iff_not] at*;simp [*];done)
  |skip
theorem F7 {s:lU}:(cT 32 s)[0]? =some ((cT 32 s).headD []):=by
 have h:=qS 32 s;cases hs:cT 32 s with
 |nil=>exact absurd hs h
 |cons x r=>rfl
set_option maxHeartbeats 2000000 in
theorem y1 (s:lU) (hs:s.length<=1048576):Fn pG 44 [eS s] true (· = .aX [lP (d_ s).1,aP (d_ s).2.1,eB (d_ s).2.2]):=by
 refine Fn.av 54 [.tmp 2,.tmp 3,.tmp 4] func44 (hv:= ?_);have hpl:=iY 32 s;have hsl:=jE 32 s;have g0:=F7 (s:=s);have hne:=qS 32 s
 have hP:d_ s=if cD ((cT 32 s).headD [])<0\/((cT 32 s).length:Int)≠(cD ((cT 32 s).headD [])).tmod 10+1 then ([],[],false)
  else if 10<=cD ((cT 32 s).headD []) then (cT 32 s,[],true)
  else if (((cT 32 s).drop 1).all λw=>(dU w).2)=true then (cT 32 s,((cT 32 s).drop 1).map λw=>(dU w).1,true)
  else ([],[],false):=rfl
 rw [hP];clear hP;have hki:=F4 ((cT 32 s).headD []);have hck:=MF ((cT 32 s).headD []);simp -dsimp -implicitDefEqProofs only [go_sem];refine aa (yW s 32 (by omega)) ?_;generalize cT 32 s=ws at*
 have h1:1<=ws.length:=by cases ws with
  |nil=>exact absurd rfl hne
  |cons x r=>simp
 generalize ws.headD []=w0 at*;generalize cD w0=k at*;have hk2: -1<=k/\k<=12:=by omega
 have hkt:jx (k.tmod 10)/\jx (k.tmod 10+1):=by have h1:=Int.tmod_lt_of_pos k (show (0:Int)<10 by decide);rcases hki with rfl|rfl|rfl|rfl|rfl|⟨rfl,_⟩|⟨rfl,_⟩<;>(unfold jx;decide)
 simp -dsimp -implicitDefEqProofs only [go_sem,g0];((with_reducible and_intros);all_goals try omega);refine aa hck ?_;rcases hk0:decide (k<0) with _|_
 rotate_left
 . rw [if_pos (.inl (oT hk0))];simp -dsimp -implicitDefEqProofs only [go_sem,hk0]
 have YR:=of_decide_eq_false hk0;rcases hlen:((ws.length:Int) != k.tmod 10+1) with _|_
 rotate_left
 . rw [if_pos (.inr (by simpa using hlen))];simp -dsimp -implicitDefEqProofs only [go_sem,hk0,hlen];((with_reducible and_intros);all_goals try omega);all_goals first|exact hkt.2|(first|omega|(refine ⟨?_,?_⟩<;>omega)|exact rfl|(simp;done)|skip)
 rw [if_neg (by rintro (q|q);· exact YR q
                exact q (by simpa using hlen))]
 rcases h10:decide (k<10) with _|_
 . have Na:=of_decide_eq_false h10;rw [if_pos (by omega)];have hl2:(ws.length:Int)≥2:=by
    have e:(ws.length:Int)=k.tmod 10+1:=(by simpa using hlen);rcases hki with rfl|rfl|rfl|rfl|rfl|⟨rfl,_⟩|⟨rfl,_⟩<;>simp at* <;>omega
   have d1:decide ((1:Int)<ws.length)=true:=dT (by omega);simp -dsimp -implicitDefEqProofs only [go_sem,hk0,hlen];((with_reducible and_intros);all_goals try omega);all_goals first|exact hkt.2|skip
   refine aj.up [5,6] [30,43,50,51] [27] 0 (λ_=>True) (λi=>[(7,.ref 27 0 0 0),(8,eI 1)]) (λi=>[(27,.row 0 ⟨1,false⟩ true [])]) trivial ?_ rfl (λi hi _=>absurd hi (DE _)) (λ_=> ?_)
   . simp -dsimp -implicitDefEqProofs only [go_sem]
   simp -dsimp -implicitDefEqProofs only [go_sem,d1,h10];((with_reducible and_intros);all_goals try exact rfl);all_goals (first|(simp;done)|skip)
 have Na:=oT h10;rw [if_neg (by omega)];simp -dsimp -implicitDefEqProofs only [go_sem,hk0,hlen];((with_reducible and_intros);all_goals try omega);all_goals first|exact hkt.2|skip
 refine aj.up [5,6] [30,43,50,51] [27] (ws.length-1) (λi=>(((ws.drop 1).take i).all λw=>(dU w).2)=true) (λi=>[(7,.ref 27 0 0 i),(8,eI ((i:Int)+1))]) (λi=>[(27,.row 0 ⟨1,false⟩ true ((((ws.drop 1).take i).map λw=>(dU w).1).map eI))]) rfl ?_ rfl (λi hi hI=> ?_) (λhI=> ?_)
 . simp -dsimp -implicitDefEqProofs only [go_sem];all_goals exact rfl
 . have hi1:i+1<ws.length:=(by omega);have hid:i<(ws.drop 1).length:=(by simp;omega);have gi:ws[i+1]? =some (ws.drop 1)[i]:=by
    rw [List.getElem_drop,←uq8,Nat.add_comm 1 i]
   have hw:=hpl _ (List.mem_of_getElem? gi);have dl:decide ((i:Int)+1<ws.length)=true:=dT (by omega);have ht:((i:Int)+1).toNat=i+1:=(by omega);have cO:=dy (λw=>(dU w).2) (ws.drop 1) i hid;have hno:=λh=>gP (p:=λw=>(dU w).2) hid h;have htk:(ws.drop 1).take (i+1)=(ws.drop 1).take i++[(ws.drop 1)[i]]:=eX hid;have hol:(((ws.drop 1).take i).map λw=>(dU w).1).length=i:=(by simp;omega);rw [htk] at cO ⊢;rw [cP,gW];clear htk;generalize (ws.drop 1)[i]=w at*;have hcv:=II w (by omega);generalize dU w=v at*;generalize ((ws.drop 1).take i).map (λw=>(dU w).1)=q at*;rcases hv:v.2 with _|_
   . have hz:=hno hv;rw [if_neg (by rw [hz];decide)];simp -dsimp -implicitDefEqProofs only [go_sem,dl,h10,ht,gi];((with_reducible and_intros);all_goals try omega);refine aa hcv ?_;simp -dsimp -implicitDefEqProofs only [go_sem,hv]
   simp -dsimp -implicitDefEqProofs only [go_sem,dl,h10,ht,gi];((with_reducible and_intros);all_goals try omega);refine aa hcv ?_;simp -dsimp -implicitDefEqProofs only [go_sem,hv];((with_reducible and_intros);all_goals try first|omega|(refine ⟨?_,?_⟩<;>omega)|exact rfl);all_goals first|(rw [cO,hI,hv];rfl)|(rw [←hol,nA];simp;done)|skip
 have dl:decide (((ws.length-1:Nat):Int)+1<ws.length)=false:=dF (by omega);have hdl:(ws.drop 1).take (ws.length-1)=ws.drop 1:=cm (by simp);rw [hdl] at hI ⊢;rw [if_pos hI];have hol:((ws.drop 1).map λw=>(dU w).1).length=ws.length-1:=by simp
 generalize (ws.drop 1).map (λw=>(dU w).1)=q at*;rw [←hol] at dl ⊢;simp -dsimp -implicitDefEqProofs only [go_sem,dl];((with_reducible and_intros));all_goals (first|(simp;done)|skip)
theorem MG (s:lU) (hs:s.length<=1048576):Fn pG 19 [eS s] true (· =eB (d_ s).2.2):=by refine Fn.av 13 [.tmp 2] func19 (hv:= ?_);simp -dsimp -implicitDefEqProofs only [go_sem];refine aa (y1 s hs) ?_;simp -dsimp -implicitDefEqProofs only [go_sem];all_goals exact rfl
theorem P8 {w:lU} (h:10<=cD w):w=k8\/w=dv:=by
 rcases F4 w with q|q|q|q|q|⟨q,e⟩|⟨q,e⟩
 all_goals first|omega|exact .inr e|exact .inl e
theorem MH {w:lU} (h:cD w<10):w≠k8/\w≠dv:=by
 refine ⟨?_,?_⟩
 . rintro rfl;rw [ME] at h;omega
 rintro rfl;rw [F5] at h;omega
set_option maxHeartbeats 2000000 in
theorem y2 (s:lU) (hs:s.length<=1048576):Fn pG 43 [eS s] true (· = .aX [lP (d_ s).1,aP (d_ s).2.1,eB (d_ s).2.2]):=by
 refine Fn.av 62 [.tmp 2,.tmp 3,.tmp 4] func43 (hv:= ?_);have hpl:=iY 32 s;have hsl:=jE 32 s;have g0:=F7 (s:=s);have hne:=qS 32 s
 have hP:d_ s=if cD ((cT 32 s).headD [])<0\/((cT 32 s).length:Int)≠(cD ((cT 32 s).headD [])).tmod 10+1 then ([],[],false)
  else if 10<=cD ((cT 32 s).headD []) then (cT 32 s,[],true)
  else if (((cT 32 s).drop 1).all λw=>(dU w).2)=true then (cT 32 s,((cT 32 s).drop 1).map λw=>(dU w).1,true)
  else ([],[],false):=rfl
 rw [hP];clear hP;have hck:=F6 ((cT 32 s).headD []);have hkk:=λh=>P8 (w:=(cT 32 s).headD []) h;have hkn:=λh=>MH (w:=(cT 32 s).headD []) h;have hcn:P7 ((cT 32 s).headD [])=if cD ((cT 32 s).headD [])<0 then 0 else (cD ((cT 32 s).headD [])).tmod 10+1:=rfl
 simp -dsimp -implicitDefEqProofs only [go_sem];refine aa (JW s 32 (by omega)) ?_;generalize cT 32 s=ws at*
 have h1:1<=ws.length:=by cases ws with
  |nil=>exact absurd rfl hne
  |cons x r=>simp
 generalize ws.headD []=w0 at*;generalize cD w0=k at*;generalize P7 w0=n at*;simp -dsimp -implicitDefEqProofs only [go_sem,g0];((with_reducible and_intros);all_goals try omega);refine aa hck ?_;rcases hlen:((ws.length:Int) != n) with _|_
 rotate_left
 . have hl':(ws.length:Int)≠n:=(by simpa using hlen)
   rw [if_pos (by
    by_cases h0:k<0
    . exact .inl h0
    rw [if_neg h0] at hcn
    exact .inr (by rw [←hcn];exact hl'))]
   simp -dsimp -implicitDefEqProofs only [go_sem,hlen]
 have hl':(ws.length:Int)=n:=by simpa using hlen
 have hk0:¬k<0:=by intro h0;rw [if_pos h0] at hcn;omega
 rw [if_neg hk0] at hcn
 rw [if_neg (by rintro (q|q);· exact hk0 q
                exact q (by rw [←hcn];exact hl'))]
 unfold k8 dv at hkk hkn;rcases h10:decide (10<=k) with _|_
 . have Na:=of_decide_eq_false h10;obtain ⟨q1,q2⟩:=hkn (by omega);have d1:decide (w0=[107,101,121])=false:=dF q1;have d2:decide (w0=[111,112,101,110,115])=false:=dF q2;have lz:(1:Int).toNat=1:=rfl;rw [if_neg Na];clear hkk hkn hck hcn;simp -dsimp -implicitDefEqProofs only [go_sem,hlen,g0,d1,d2];((with_reducible and_intros);all_goals try omega);refine aj.up [5,33,34] [41,52,57,58] [13] (ws.length-1) (λi=>(((ws.drop 1).take i).all λw=>(dU w).2)=true) (λi=>[(6,.ref 13 0 0 i),(35,eI i)]) (λi=>[(13,.row 0 ⟨1,false⟩ true ((((ws.drop 1).take i).map λw=>(dU w).1).map eI))]) rfl ?_ rfl (λi hi hI=> ?_) (λhI=> ?_)
   . simp -dsimp -implicitDefEqProofs only [go_sem]
   . have hi1:i+1<ws.length:=(by omega);have hid:i<(ws.drop 1).length:=(by simp;omega);have gi:ws[1+i]? =some (ws.drop 1)[i]:=by
      rw [List.getElem_drop,←uq8]
     have hw:=hpl _ (List.mem_of_getElem? gi);have dl:=aE hi;have cO:=dy (λw=>(dU w).2) (ws.drop 1) i hid;have hno:=λh=>gP (p:=λw=>(dU w).2) hid h;have htk:(ws.drop 1).take (i+1)=(ws.drop 1).take i++[(ws.drop 1)[i]]:=eX hid;have hol:(((ws.drop 1).take i).map λw=>(dU w).1).length=i:=(by simp;omega);rw [htk] at cO ⊢;rw [cP,gW];clear htk;generalize (ws.drop 1)[i]=w at*;have hcv:=P0 w (by omega);have Th:=t_ w;have heq:=λh=>Df (w:=w) h;generalize ((ws.drop 1).take i).map (λw=>(dU w).1)=q at*;generalize dU w=v at*;generalize p8 w=u at*;rcases hu:u.2 with _|_
     . have hv:v.2=false:=by
        cases hv2:v.2 with
        |false=>rfl
        |true=>have:=(Th.2 hv2).1;rw [hu] at this;cases this
       have hz:=hno hv;rw [if_neg (by rw [hz];decide)];simp -dsimp -implicitDefEqProofs only [go_sem,dl,gi];((with_reducible and_intros);all_goals try omega);refine aa hcv ?_;simp -dsimp -implicitDefEqProofs only [go_sem,hu]
     rcases hn0:decide (u.1<0) with _|_
     rotate_left
     . have Zt:=oT hn0;have hv:v.2=false:=by
        cases hv2:v.2 with
        |false=>rfl
        |true=>have:=(Th.2 hv2).2.1;omega
       have hz:=hno hv;rw [if_neg (by rw [hz];decide)];simp -dsimp -implicitDefEqProofs only [go_sem,dl,gi];((with_reducible and_intros);all_goals try omega);refine aa hcv ?_;simp -dsimp -implicitDefEqProofs only [go_sem,hu,hn0]
     rcases Ti:decide ((w.length:Int)>13) with _|_
     rotate_left
     . have Y7:=oT Ti;have hv:v.2=false:=by
        cases hv2:v.2 with
        |false=>rfl
        |true=>have:=(Th.2 hv2).2.2;omega
       have hz:=hno hv;rw [if_neg (by rw [hz];decide)];simp -dsimp -implicitDefEqProofs only [go_sem,dl,gi];((with_reducible and_intros);all_goals try omega);refine aa hcv ?_;simp -dsimp -implicitDefEqProofs only [go_sem,hu,hn0,Ti]
     have hv:v.2=true:=Th.1 ⟨hu,by have:=of_decide_eq_false hn0;omega,by have:=of_decide_eq_false Ti;omega⟩;have huv:=heq hv;rw [←huv];simp -dsimp -implicitDefEqProofs only [go_sem,dl,gi];((with_reducible and_intros);all_goals try omega);refine aa hcv ?_;simp -dsimp -implicitDefEqProofs only [go_sem,hu,hn0,Ti];((with_reducible and_intros);all_goals try first|omega|(refine ⟨?_,?_⟩<;>omega)|exact rfl);all_goals first|(rw [cO,hI,hv];rfl)|(rw [←hol,nA];simp;done)|skip
   have hdl:(ws.drop 1).take (ws.length-1)=ws.drop 1:=cm (by simp);rw [hdl] at hI ⊢;rw [if_pos hI];have hol:((ws.drop 1).map λw=>(dU w).1).length=ws.length-1:=(by simp);generalize (ws.drop 1).map (λw=>(dU w).1)=q at*;rw [←hol];simp -dsimp -implicitDefEqProofs only [go_sem,ay];((with_reducible and_intros));all_goals first|(simp;done)|(first|omega|(refine ⟨?_,?_⟩<;>omega)|exact rfl|(simp;done)|skip)
 have Na:=oT h10;rw [if_pos Na];rcases hkk Na with q1|q1
 . have d1:decide (w0=[107,101,121])=true:=dT q1;simp -dsimp -implicitDefEqProofs only [go_sem,hlen,g0,d1];((with_reducible and_intros);all_goals try omega);all_goals (first|(simp;done)|skip)
 have d1:decide (w0=[107,101,121])=false:=dF (by rw [q1];decide);have d2:decide (w0=[111,112,101,110,115])=true:=dT q1;simp -dsimp -implicitDefEqProofs only [go_sem,hlen,g0,d1,d2];((with_reducible and_intros);all_goals try omega);all_goals (first|(simp;done)|skip)
theorem MI (s:lU) (hs:s.length<=1048576):Fn pG 18 [eS s] true (· =eB (d_ s).2.2):=by refine Fn.av 13 [.tmp 2] func18 (hv:= ?_);simp -dsimp -implicitDefEqProofs only [go_sem];refine aa (y2 s hs) ?_;simp -dsimp -implicitDefEqProofs only [go_sem];all_goals exact rfl
def k9 (s:lU):lU:=if s.drop (s.length-1)=[10] then s.take (s.length-1) else s
theorem F8 (s:lU) (h:s.length<=1048576):Fn pG 111 [eS s,eS [10]] true (· =eB (decide (s.drop (s.length-1)=[10]))):=by
 refine Fn.av 21 [.tmp 4] func111 (hv:= ?_);by_cases h0:s=[]
 . subst h0;have d0:decide ((0:Int)≥((1:Nat):Int))=false:=rfl;simp -dsimp -implicitDefEqProofs only [go_sem,d0];all_goals try exact rfl
 have hl:=List.length_pos_iff.2 h0;have d0:decide ((s.length:Int)≥((1:Nat):Int))=true:=dT (by omega);have e1:((s.length:Int)-((1:Nat):Int)).toNat=s.length-1:=by omega
 simp -dsimp -implicitDefEqProofs only [go_sem,d0,e1];((with_reducible and_intros);all_goals try first|omega|(refine ⟨?_,?_⟩<;>omega))
theorem zO (s:lU) (h:s.length<=1048576):Fn pG 82 [eS s,eS [10]] true (· =eS (k9 s)):=by
 refine Fn.av 16 [.tmp 4] func82 (hv:= ?_);have hc:=F8 s h;unfold k9;by_cases hs:s.drop (s.length-1)=[10]
 . rw [decide_eq_true hs] at hc;rw [if_pos hs];have hl:0<s.length:=by
    have:=congrArg List.length hs;rw [List.length_drop,List.length_singleton] at this;omega
   have e1:((s.length:Int)-((1:Nat):Int)).toNat=s.length-1:=(by omega);simp -dsimp -implicitDefEqProofs only [go_sem];refine aa hc ?_;simp -dsimp -implicitDefEqProofs only [go_sem,e1];((with_reducible and_intros);all_goals try first|omega|(refine ⟨?_,?_⟩<;>omega))
 rw [decide_eq_false hs] at hc;rw [if_neg hs];simp -dsimp -implicitDefEqProofs only [go_sem];refine aa hc ?_;simp -dsimp -implicitDefEqProofs only [go_sem]
theorem Dg (s:lU) (h:s.length<=1048576):Fn pG 59 [eS s,eS [10]] true (· =eS (k9 s)):=by refine Fn.av 8 [.tmp 4] func59 (hv:= ?_);simp -dsimp -implicitDefEqProofs only [go_sem];refine aa (zO s h) ?_;simp -dsimp -implicitDefEqProofs only [go_sem]
def cS (s:lU):List lU:=if (cT 10 s).getD ((cT 10 s).length-1) []=[] then (cT 10 s).take ((cT 10 s).length-1) else cT 10 s
theorem qz {c:UInt8}:∀(a:lU),cT c (a++[c])=cT c a++[[]]
 | []=>by simp [cT]
 |b::a=>by
  have ih:=qz (c:=c) a;rw [List.cons_append,cT,cT,ih];by_cases hb:b=c
  . rw [if_pos hb,if_pos hb];rfl
  rw [if_neg hb,if_neg hb];have hne:=qS c a;cases hs:cT c a with
  |nil=>exact absurd hs hne
  |cons x r=>rfl
theorem F9 {c:UInt8}:∀(a:lU),(cT c a).getD ((cT c a).length-1) []=[]->a=[]\/∃b,a=b++[c]
 | [],_=>.inl rfl
 |b::a,h=>by
  right;have ih:=F9 (c:=c) a;have hne:=qS c a;rw [cT] at h;by_cases hb:b=c
  . rw [if_pos hb] at h;have h2:(cT c a).getD ((cT c a).length-1) []=[]:=by
     have hl:0<(cT c a).length:=List.length_pos_iff.2 hne;rw [dR,show (cT c a).length+1-1=((cT c a).length-1)+1 by omega,List.getD_cons_succ] at h;exact h
    rcases ih h2 with rfl|⟨d,rfl⟩
    . exact ⟨[],by rw [hb];rfl⟩
    exact ⟨b::d,rfl⟩
  rw [if_neg hb] at h;cases hs:cT c a with
  |nil=>exact absurd hs hne
  |cons x r=>
   rw [hs] at h;simp only at h;cases r with
   |nil=>simp at h
   |cons y z=>
    have h2:(cT c a).getD ((cT c a).length-1) []=[]:=by rw [hs];simpa using h
    rcases ih h2 with rfl|⟨d,rfl⟩
    . simp [cT] at hs
    exact ⟨b::d,rfl⟩
theorem rp (s:lU):(if s=[] then [] else cT 10 (k9 s))=cS s:=by
 by_cases h0:s=[]
 . subst h0;rw [if_pos rfl];rfl
 rw [if_neg h0];by_cases hd:s.drop (s.length-1)=[10]
 . have hs:s=s.take (s.length-1)++[10]:=by
    conv=>lhs;rw [←List.take_append_drop (s.length-1) s,hd]
   have ht:k9 s=s.take (s.length-1):=(by rw [k9,if_pos hd]);rw [ht];generalize s.take (s.length-1)=a at*;subst hs;rw [cS,qz];have hl:(cT 10 a++[[]]).length-1=(cT 10 a).length:=(by simp);rw [hl,if_pos (by simp [uq7]),List.take_left'];rfl
 have ht:k9 s=s:=by rw [k9,if_neg hd]
 rw [ht,cS,if_neg];intro e;rcases F9 s e with h|⟨b,rfl⟩
 . exact h0 h
 apply hd;simp
theorem ua:∀s:lU,(cT 10 s).length<=s.length+1:=by
 intro s;induction s with
 |nil=>simp [cT]
 |cons b s ih=>
  rw [cT];split
  . simp;omega
  split
  . rename_i h;rw [h] at ih;simpa using (by simp at ih ⊢;omega)
  simp
theorem y3 (s:lU):(cS s).length<=s.length+1/\∀l∈cS s,l.length<=s.length:=by
 have h2:=iY 10 s;unfold cS;split
 . exact ⟨by have:=ua s;simp;omega,λl hl=>h2 l (fq hl)⟩
 exact ⟨ua s,h2⟩
theorem y4 (s:lU) (h:s.length<=1048576):Fn pG 30 [eS s] true (· =lP (cS s)):=by
 refine Fn.av 19 [.tmp 2] func30 (hv:= ?_);have hc:=yW s 10 h;have hne:=qS 10 s;have hLl:=ua s;unfold cS;generalize cT 10 s=L at*;have hl:0<L.length:=List.length_pos_iff.2 hne;have e1:((L.length:Int)-1).toNat=L.length-1:=by omega
 have g1:L[L.length-1]? =some (L.getD (L.length-1) []):=by rw [uq7,uq8 (by omega)];rfl
 generalize L.getD (L.length-1) []=z at*;by_cases hz:z=[]
 . subst hz;rw [if_pos rfl];simp -dsimp -implicitDefEqProofs only [go_sem];refine aa hc ?_;simp -dsimp -implicitDefEqProofs only [go_sem,e1,g1];((with_reducible and_intros);all_goals try first|omega|(refine ⟨?_,?_⟩<;>omega));all_goals first|(simp;done)|(first|omega|(refine ⟨?_,?_⟩<;>omega)|exact rfl|(simp;done)|skip)
 have dz:decide (z=[])=false:=dF hz;rw [if_neg hz];simp -dsimp -implicitDefEqProofs only [go_sem];refine aa hc ?_;simp -dsimp -implicitDefEqProofs only [go_sem,e1,g1,dz];((with_reducible and_intros);all_goals try first|omega|(refine ⟨?_,?_⟩<;>omega));all_goals first|(simp;done)|(first|omega|(refine ⟨?_,?_⟩<;>omega)|exact rfl|(simp;done)|skip)
theorem MJ (s:lU) (h:s.length<=1048576):Fn pG 28 [eS s] true (· =eB (decide (s.length<=3000)&&decide ((cS s).length<=50))):=by
 refine Fn.av 12 [.tmp 2] func28 (hv:= ?_);have hc:=y4 s h;rcases d1:decide ((s.length:Int)<=3000) with _|_
 . have e1:decide (s.length<=3000)=false:=dF (by have:=of_decide_eq_false d1;omega);rw [e1,uq1];simp -dsimp -implicitDefEqProofs only [go_sem,d1]
 have e1:decide (s.length<=3000)=true:=dT (by have:=oT d1;omega);have e2:decide (((cS s).length:Int)<=50)=decide ((cS s).length<=50):=by rw [decide_eq_decide];omega
 rw [e1,uq3,←e2];simp -dsimp -implicitDefEqProofs only [go_sem,d1];refine aa hc ?_;simp -dsimp -implicitDefEqProofs only [go_sem]
def P9 (i:Int):lU:=([[48],[35],[46],[47],[32],[97],[45],[10]]:List lU).getD i.toNat []
theorem F_ (i:Int):(P9 i).length<=1:=by
 unfold P9;rcases Nat.lt_or_ge i.toNat 8 with h|h
 . match i.toNat,h with
   |0,_=>decide
   |1,_=>decide
   |2,_=>decide
   |3,_=>decide
   |4,_=>decide
   |5,_=>decide
   |6,_=>decide
   |7,_=>decide
 rw [uq7,List.getElem?_eq_none (by simpa using h)];simp
def Yo (bs:lU) (t:lU) (a:Int × Src) (b:Int × Src):lU × Src:=
 if b.1=0 then (t.take a.1.toNat,b.2)
 else if b.1=1 then (t.take a.1.toNat++P9 (nx bs 8 b.2).1++t.drop a.1.toNat,(nx bs 8 b.2).2)
 else if b.1=2/\a.1<t.length then (t.take a.1.toNat++t.drop (a.1.toNat+1),b.2)
 else (t,b.2)
def nN (bs:lU) (t:lU) (s:Src):lU × Src:=Yo bs t (nx bs ((t.length:Int)+1) s) (nx bs 8 (nx bs ((t.length:Int)+1) s).2)
theorem W8 (bs t:lU) {s:Src} (h:gq s):0<=(nx bs ((t.length:Int)+1) s).1/\(nx bs ((t.length:Int)+1) s).1<=t.length:=by
 have h1:=fh bs ((t.length:Int)+1) h;refine ⟨h1.1,?_⟩;by_cases hz:(t.length:Int)+1<=1
 . rw [h1.2.1 hz];omega
 have:=h1.2.2.1 (by omega);omega
theorem B_ (bs t:lU) {s:Src} (h:gq s):gq (nN bs t s).2/\(nN bs t s).1.length<=t.length+1:=by
 have h1:=W8 bs t h;have o1:=(fh bs ((t.length:Int)+1) h).2.2.2;unfold nN;generalize nx bs ((t.length:Int)+1) s=a at*;have o2:=(fh bs 8 o1).2.2.2;generalize nx bs 8 a.2=b at*;have o3:=(fh bs 8 o2).2.2.2;have hw:=F_ (nx bs 8 b.2).1;unfold Yo;split
 . exact ⟨o2,by simp;omega⟩
 split
 . exact ⟨o3,by simp;omega⟩
 split
 . exact ⟨o2,by simp;omega⟩
 exact ⟨o2,by dsimp only;omega⟩
set_option maxHeartbeats 8000000 in
theorem vH (v:Nat) (bs t:lU) (s:Src) (h:gq s) (hl:bs.length<=4096) (ht:t.length<=1000000):
 pD pG 42 [mH v bs s] [.ptr 1000000000 v 0 0,eS t] (λx io=>x=eS (nN bs t s).1/\io=[mH v bs (nN bs t s).2]):=by
 refine pD.cW 48 [.tmp 4] func42 (hv:= ?_);obtain ⟨res,hr⟩:∃res,nN bs t s=res:=⟨_,rfl⟩;rw [hr];unfold nN Yo at hr;have h1:=fh bs ((t.length:Int)+1) h;have c1:=λv=>bU v bs ((t.length:Int)+1) s h hl;have hk:0<=(nx bs ((t.length:Int)+1) s).1/\(nx bs ((t.length:Int)+1) s).1<=t.length:=by
  refine ⟨h1.1,?_⟩;by_cases hz:(t.length:Int)+1<=1
  . rw [h1.2.1 hz];omega
  have:=h1.2.2.1 (by omega);omega
 have o1:=h1.2.2.2;clear h1;generalize nx bs ((t.length:Int)+1) s=a at*;have h2:=fh bs 8 o1;have c2:=λv=>bU v bs 8 a.2 o1 hl;generalize nx bs 8 a.2=b at*;have o2:=h2.2.2.2;clear h2;obtain ⟨n,hn⟩:∃n:Nat,a.1=n:=⟨a.1.toNat,by omega⟩;rw [hn] at hk c1 hr;rw [Int.toNat_natCast] at hr;have hk1:n<=t.length:=by omega
 simp -dsimp -implicitDefEqProofs only [go_sem];with_reducible and_intros
 all_goals try (first|(refine ⟨?_,?_⟩<;>omega)|(simp;done))
 (refine aU [1000000000] ?_;simp -dsimp -implicitDefEqProofs only [go_sem];refine aO (c1 _) ?_;simp -dsimp -implicitDefEqProofs only [go_sem]);(refine aU [1000000000] ?_;simp -dsimp -implicitDefEqProofs only [go_sem];refine aO (c2 _) ?_;simp -dsimp -implicitDefEqProofs only [go_sem]);rcases hb0:(b.1==0) with _|_
 . rw [if_neg (by simpa using hb0)] at hr;simp -dsimp -implicitDefEqProofs only [go_sem];rcases hb1:(b.1==1) with _|_
   . rw [if_neg (by simpa using hb1)] at hr;simp -dsimp -implicitDefEqProofs only [go_sem];rcases hb2:(b.1==2) with _|_
     . rw [if_neg (by have:b.1≠2:=by simpa using hb2
                      exact λh=>this h.1)] at hr
       subst hr;simp -dsimp -implicitDefEqProofs only [go_sem]
     rcases hlt:decide ((n:Int)<(t.length:Int)) with _|_
     . rw [if_neg (λh=>of_decide_eq_false hlt h.2)] at hr;subst hr;simp -dsimp -implicitDefEqProofs only [go_sem,hlt]
     have QT:=oT hlt;rw [if_pos ⟨by simpa using hb2,QT⟩] at hr;subst hr;have e1:((n:Int)+1).toNat=n+1:=(by omega);simp -dsimp -implicitDefEqProofs only [go_sem,hlt];refine aj.draw mixed rfl ?_;simp -dsimp -implicitDefEqProofs only [go_sem,e1];with_reducible and_intros
     all_goals try first|(first|omega|(refine ⟨?_,?_⟩<;>omega)|exact rfl|(simp;done))|(simp;omega)
   rw [if_pos (by simpa using hb1)] at hr;simp -dsimp -implicitDefEqProofs only [go_sem];have h3:=fh bs 8 o2;have c3:=λv=>bU v bs 8 b.2 o2 hl;generalize nx bs 8 b.2=d at*;have o3:=h3.2.2.2;have d1:=h3.1;have d2:=h3.2.2.1 (by omega);clear h3;refine aj.draw mixed rfl ?_;simp -dsimp -implicitDefEqProofs only [go_sem];with_reducible and_intros
   all_goals try (first|omega|(simp;done))
   (refine Ld [1000000000] rfl ?_;simp -dsimp -implicitDefEqProofs only [go_sem];refine E8 (c3 _) ?_;simp -dsimp -implicitDefEqProofs only [go_sem]);with_reducible and_intros
   all_goals try (first|omega|(simp;done))
   subst hr;have hwl:=F_ d.1;have hw:∀i,i<8->([AV.val (.string ⟨#[48]⟩),AV.val (.string ⟨#[35]⟩),AV.val (.string ⟨#[46]⟩),AV.val (.string ⟨#[47]⟩),AV.val (.string ⟨#[32]⟩),AV.val (.string ⟨#[97]⟩),AV.val (.string ⟨#[45]⟩),AV.val (.string ⟨#[10]⟩)]:lA)[i]? =some (eS (([[48],[35],[46],[47],[32],[97],[45],[10]]:List lU).getD i [])):=λi hi=>by
    match i,hi with
    |0,_=>rfl
    |1,_=>rfl
    |2,_=>rfl
    |3,_=>rfl
    |4,_=>rfl
    |5,_=>rfl
    |6,_=>rfl
    |7,_=>rfl
   have w2:=hw d.1.toNat (by omega);clear hw;change _=some (eS (P9 d.1)) at w2;generalize P9 d.1=w at*;simp -dsimp -implicitDefEqProofs only [go_sem,w2];with_reducible and_intros
   all_goals try first|(first|omega|exact rfl|(simp;done))|(simp;omega)
 rw [if_pos (by simpa using hb0)] at hr;subst hr;simp -dsimp -implicitDefEqProofs only [go_sem];with_reducible and_intros
 all_goals try first|(first|omega|(simp;done))|(simp;omega)
theorem vI {P:Program} {f:FuncId} {d:Nat} {xs ts:lA} {m:Mem} {k:AV->Mem->Prop} {post:AV->Prop} (h:Fn P f ts false post) (hl:ax xs) (hk:∀r,post r->k r m) {q:Pack k}:eR P f d xs ts m k q:=.inr ⟨false,_,h,λ_=>hl,λr hr=>hk r hr⟩
theorem We {m:aL} (hm:aW m=true) {k:lI} (h:qy m k):k≠[]:=by have ⟨⟨zu,zv⟩,hd1,hd2⟩:=aI hm;have:=h.len;intro hk;rw [hk] at this;simp at this;omega
theorem MK {m:aL} (hm:aW m=true):(bu m).length<=262144:=by have ⟨⟨zu,zv⟩,hd1,hd2⟩:=aI hm;have:(bu m).length<=8^6:=Nat.le_trans (kh m hm _ _) (Nat.pow_le_pow_right (by decide) (by omega));omega
def lZ (m:aL) (se sec:Int):Int:=if aW m=true then if bx se 0 25=true/\bx sec 0 (iM m-1)=true then 0 else 2 else 1
def j4 (m:aL) (key:lI) (se sec:Int):lU × Int:=
 if lZ m se sec=0 then if fault m key=0 then (tZ (itoa (iM m)).length se ((cF m key key.length+sec).tmod (iM m)),0) else ([],2) else ([],lZ m se sec)
theorem P_ (m:aL):iM m=(bu m).length:=by unfold iM;rw [PT]
theorem rq {m:aL} (hm:aW m=true):0<=iM m/\iM m<=262144:=by have:=MK hm;rw [P_];omega
theorem P' {m:aL} {se sec:Int} (h:lZ m se sec=0):aW m=true/\(0<=se/\se<=25)/\0<=sec/\sec<iM m:=by
 unfold lZ at h;split at h
 . rename_i hm;split at h
   . rename_i hi;simp only [bx,uq0,decide_eq_true_eq] at hi;exact ⟨hm,by omega,by omega,by omega⟩
   omega
 omega
theorem ML (m:aL) (se sec:Int):Fn pG 151 [ky m,eI se,eI sec] true (· =eI (lZ m se sec)):=by
 refine Fn.av 21 [.tmp 6] func151 (hv:= ?_);have lu:=fB m;unfold lZ;rcases hm:aW m with _|_
 . rw [hm] at lu;simp only [uq2,if_false];clear hm;simp -dsimp -implicitDefEqProofs only [go_sem];repeat' (refine aa (lu) ?_;try simp -dsimp -implicitDefEqProofs only [go_sem, *])
 have hcn:=lY m hm;have hb:=rq hm;have e:iM m=(lR m m.ae.toNat []:Nat):=rfl;rw [e] at hb ⊢;rw [hm] at lu;clear hm e;generalize lR m m.ae.toNat []=N at*;have i1:=jD se 0 25;have i2:=jD sec 0 ((N:Int)-1);simp only [if_true];generalize bx se 0 25=x at*;generalize bx sec 0 ((N:Int)-1)=y at*;cases x
 . simp only [uq2,false_and,if_false];simp -dsimp -implicitDefEqProofs only [go_sem];repeat' (refine aa (lu) ?_;try simp -dsimp -implicitDefEqProofs only [go_sem, *])
   repeat' (refine aa (i1) ?_;try simp -dsimp -implicitDefEqProofs only [go_sem, *])
 cases y
 . simp only [uq2,and_false,if_false];simp -dsimp -implicitDefEqProofs only [go_sem];repeat' (refine aa (lu) ?_;try simp -dsimp -implicitDefEqProofs only [go_sem, *])
   repeat' (refine aa (i1) ?_;try simp -dsimp -implicitDefEqProofs only [go_sem, *])
   repeat' (refine aa (hcn) ?_;try simp -dsimp -implicitDefEqProofs only [go_sem, *])
   ((with_reducible and_intros);all_goals try ((refine ⟨?_,?_⟩<;>omega)));repeat' (refine aa (i2) ?_;try simp -dsimp -implicitDefEqProofs only [go_sem, *])
 simp only [and_self,if_true];simp -dsimp -implicitDefEqProofs only [go_sem];repeat' (refine aa (lu) ?_;try simp -dsimp -implicitDefEqProofs only [go_sem, *])
 repeat' (refine aa (i1) ?_;try simp -dsimp -implicitDefEqProofs only [go_sem, *])
 repeat' (refine aa (hcn) ?_;try simp -dsimp -implicitDefEqProofs only [go_sem, *])
 ((with_reducible and_intros);all_goals try ((refine ⟨?_,?_⟩<;>omega)));repeat' (refine aa (i2) ?_;try simp -dsimp -implicitDefEqProofs only [go_sem, *])
theorem F' (m:aL):Fn pG 180 [ky m] true (· = .aX [eI (if aW m=true then iM m else 0),eI (if aW m=true then 0 else 1)]):=by
 refine Fn.av 9 [.tmp 2,.tmp 3] func180 (hv:= ?_);have lu:=eU m;rcases hm:aW m with _|_
 . rw [hm] at lu;simp only [uq2,if_false];clear hm;simp -dsimp -implicitDefEqProofs only [go_sem];repeat' (refine aa (lu) ?_;try simp -dsimp -implicitDefEqProofs only [go_sem, *])
 have hcn:=vD m hm;rw [hm] at lu;simp only [if_true];clear hm;simp -dsimp -implicitDefEqProofs only [go_sem];repeat' (refine aa (lu) ?_;try simp -dsimp -implicitDefEqProofs only [go_sem, *])
 repeat' (refine aa (hcn) ?_;try simp -dsimp -implicitDefEqProofs only [go_sem, *])
 all_goals first|rfl|skip
theorem IN (m:aL) (key:lI) (se sec:Int) (hk:key.length<=1048576):Fn pG 125 [ky m,aP key,eI se,eI sec] true (· = .aX [eS (j4 m key se sec).1,eI (j4 m key se sec).2]):=by
 refine Fn.av 42 [.tmp 8,.tmp 9] func125 (hv:= ?_);have fv:=PV m key hk;have h10:((1:Int) != 0)=true:=rfl;have h20:((2:Int) != 0)=true:=rfl;have h00:((0:Int) != 0)=false:=rfl;unfold j4 lZ;rcases hm:aW m with _|_
 . rw [hm] at fv;simp only [uq2,if_false,Int.reduceEq] at fv ⊢;clear hm;simp -dsimp -implicitDefEqProofs only [go_sem];repeat' (refine aa (fv) ?_;try simp -dsimp -implicitDefEqProofs only [go_sem, *])
 rw [hm] at fv;simp only [if_true] at fv ⊢;by_cases hf:fault m key=0
 . rw [if_pos hf] at fv ⊢;have hcn:=vD m hm;have hlt:=(Dc hf).2;have hb:=jG m hm;have i1:=kT se 0 25;have i2:=kT sec 0 (iM m-1);have d1:bx se 0 25=true->0<=se/\se<=25:=(by simp [bx]);have d2:bx sec 0 (iM m-1)=true->0<=sec/\sec<=iM m-1:=(by simp [bx]);have e:iM m=(lR m m.ae.toNat []:Nat):=rfl;rw [e] at i2 d2 ⊢;have hst:=λa b=>F1 (lR m m.ae.toNat []) se ((cF m key key.length+sec).tmod (lR m m.ae.toNat []:Nat)) (by omega) a b
   have hbn:0<=sec->0<=(cF m key key.length+sec).tmod (lR m m.ae.toNat []:Nat)/\(cF m key key.length+sec).tmod (lR m m.ae.toNat []:Nat)<=1000000:=λh=>⟨Int.tmod_nonneg _ (by omega),by
    have:=Int.tmod_lt_of_pos (cF m key key.length+sec) (show 0<((lR m m.ae.toNat []:Nat):Int) by omega)
    omega⟩
   generalize lR m m.ae.toNat []=N at*;generalize cF m key key.length=r at*;have hN0:((N:Int)==0)=false:=beq_eq_false_iff_ne.2 (by omega);clear hm hf e;generalize bx se 0 25=x at*;generalize bx sec 0 ((N:Int)-1)=y at*;cases x
   . simp only [uq2,false_and,if_false,Int.reduceEq];clear hst hbn d1 d2;simp -dsimp -implicitDefEqProofs only [go_sem];repeat' (refine aa (fv) ?_;try simp -dsimp -implicitDefEqProofs only [go_sem, *])
     repeat' (refine aa (hcn) ?_;try simp -dsimp -implicitDefEqProofs only [go_sem, *])
     repeat' (refine aa (i1) ?_;try simp -dsimp -implicitDefEqProofs only [go_sem, *])
   cases y
   . simp only [uq2,and_false,if_false,Int.reduceEq];clear hst hbn d1 d2;simp -dsimp -implicitDefEqProofs only [go_sem];repeat' (refine aa (fv) ?_;try simp -dsimp -implicitDefEqProofs only [go_sem, *])
     repeat' (refine aa (hcn) ?_;try simp -dsimp -implicitDefEqProofs only [go_sem, *])
     repeat' (refine aa (i1) ?_;try simp -dsimp -implicitDefEqProofs only [go_sem, *])
     ((with_reducible and_intros);all_goals try ((refine ⟨?_,?_⟩<;>omega)));repeat' (refine aa (i2) ?_;try simp -dsimp -implicitDefEqProofs only [go_sem, *])
   simp only [and_self,if_true];have e1:=d1 rfl;have e2:=d2 rfl;have hst:=hst e1 (hbn e2.1);clear hbn d1 d2;generalize itoa (N:Int)=A at*;simp -dsimp -implicitDefEqProofs only [go_sem];repeat' (refine aa (fv) ?_;try simp -dsimp -implicitDefEqProofs only [go_sem, *])
   repeat' (refine aa (hcn) ?_;try simp -dsimp -implicitDefEqProofs only [go_sem, *])
   repeat' (refine aa (i1) ?_;try simp -dsimp -implicitDefEqProofs only [go_sem, *])
   ((with_reducible and_intros);all_goals try ((refine ⟨?_,?_⟩<;>omega)));repeat' (refine aa (i2) ?_;try simp -dsimp -implicitDefEqProofs only [go_sem, *])
   ((with_reducible and_intros);all_goals try first|omega|(refine ⟨?_,?_⟩<;>omega));repeat' (refine aa (hst) ?_;try simp -dsimp -implicitDefEqProofs only [go_sem, *])
 rw [if_neg hf] at fv;have hz:(if (if bx se 0 25=true/\bx sec 0 (iM m-1)=true then (0:Int) else 2)=0 then if fault m key=0 then (tZ (itoa (iM m)).length se ((cF m key key.length+sec).tmod (iM m)),(0:Int)) else ([],2) else ([],if bx se 0 25=true/\bx sec 0 (iM m-1)=true then 0 else 2))=([],2):=by
  by_cases q:bx se 0 25=true/\bx sec 0 (iM m-1)=true
  . rw [if_pos q,if_pos rfl,if_neg hf]
  rw [if_neg q,if_neg (by omega)]
 rw [hz];clear hm hf hz;simp -dsimp -implicitDefEqProofs only [go_sem];repeat' (refine aa (fv) ?_;try simp -dsimp -implicitDefEqProofs only [go_sem, *])
theorem IP (m:aL) (key:lI) (se sec:Int) (hk:key.length<=1048576):Fn pG 107 [ky m,aP key,eI se,eI sec] true (· = .aX [eS (j4 m key se sec).1,eI (j4 m key se sec).2]):=by
 refine Fn.av 37 [.tmp 8,.tmp 9] func107 (hv:= ?_);have fv:=ML m se sec;have h10:((1:Int) != 0)=true:=rfl;have h20:((2:Int) != 0)=true:=rfl;have h00:((0:Int) != 0)=false:=rfl;unfold j4;by_cases hc:lZ m se sec=0
 . obtain ⟨hm,hse,YS⟩:=P' hc;rw [hc] at fv;rw [if_pos hc];have hfa:=nF m key hm hk;have hcn:=lY m hm;by_cases hf:fault m key=0
   . rw [hf] at hfa;rw [if_pos hf];have hlt:=(Dc hf).2;have hb:=jG m hm;have hrk:=Mr m key hm hf;have e:iM m=(lR m m.ae.toNat []:Nat):=rfl;rw [e] at YS ⊢
     have hbn:0<=(cF m key key.length+sec).tmod (lR m m.ae.toNat []:Nat)/\(cF m key key.length+sec).tmod (lR m m.ae.toNat []:Nat)<=1000000:=⟨Int.tmod_nonneg _ (by omega),by
      have:=Int.tmod_lt_of_pos (cF m key key.length+sec) (show 0<((lR m m.ae.toNat []:Nat):Int) by omega)
      omega⟩
     have hst:=MD m hm se _ hse hbn;generalize lR m m.ae.toNat []=N at*;generalize cF m key key.length=r at*;have hN0:((N:Int)==0)=false:=beq_eq_false_iff_ne.2 (by omega);clear hm hf e hc;generalize itoa (N:Int)=A at*;simp -dsimp -implicitDefEqProofs only [go_sem];repeat' (refine aa (fv) ?_;try simp -dsimp -implicitDefEqProofs only [go_sem, *])
     repeat' (refine aa (hfa) ?_;try simp -dsimp -implicitDefEqProofs only [go_sem, *])
     refine aj.draw mixed rfl ?_;simp -dsimp -implicitDefEqProofs only [go_sem];(refine an (hrk) ?_;try simp -dsimp -implicitDefEqProofs only [go_sem, *]);((with_reducible and_intros);all_goals try ((refine ⟨?_,?_⟩<;>omega)));(refine an (hcn) ?_;try simp -dsimp -implicitDefEqProofs only [go_sem, *]);((with_reducible and_intros);all_goals try omega);(refine an (hst) ?_;try simp -dsimp -implicitDefEqProofs only [go_sem, *]);all_goals try exact rfl
   rw [if_neg hf];have hz:(fault m key != 0)=true:=bne_iff_ne.2 hf;clear hm hf hc hcn;generalize fault m key=F at*;simp -dsimp -implicitDefEqProofs only [go_sem];repeat' (refine aa (fv) ?_;try simp -dsimp -implicitDefEqProofs only [go_sem, *])
   repeat' (refine aa (hfa) ?_;try simp -dsimp -implicitDefEqProofs only [go_sem, *])
 rw [if_neg hc];have hz:(lZ m se sec==0)=false:=beq_eq_false_iff_ne.2 hc;have hz2:(lZ m se sec != 0)=true:=bne_iff_ne.2 hc;clear hc;generalize lZ m se sec=C at*;simp -dsimp -implicitDefEqProofs only [go_sem];repeat' (refine aa (fv) ?_;try simp -dsimp -implicitDefEqProofs only [go_sem, *])
theorem Fn.y5 {P:Program} {f:FuncId} {args:lA} {post:AV->Prop} (h:Fn P f args false (λx=>∃r,tv x r/\post r)):Fn P f args false post:=
 ⟨h.1,λw S vs h1 hk h2 h3=>(h.2 w S vs h1 hk h2 h3).mono λ_ _ ⟨x,v,g1,⟨r,g2,g3⟩,g4,g5⟩=>⟨r,v,g1,g3,g4,by
   simp only [iO,uq2,if_false] at g5 ⊢
   exact (CP (Own.rd _ _ g5) g2).mi (λ_ h=>h) λb hb=>by cases hb⟩⟩
theorem ir {m:aL} {t ab:lL} (h:bT m t ab=0):eW m t=true/\dW m t ab=true:=by
 unfold bT at h;split at h
 . rename_i h1;split at h
   . rename_i h2;exact ⟨h1,h2⟩
   cases h
 cases h
structure MN (m:aL) (t ab:lL):Prop where
 pg:aW m=true
 num:(2<=m.ae/\m.ae<=6)/\2<=m.ak/\m.ak<=8
 tl:t.length<=1000
 t0:0<t.length
 le:ab.length<=t.length
 row:∀i (hi:i<t.length),t[i].length=(t.getD 0 []).length
 wd:(t.getD 0 []).length<=1000
 cut:∀x∈ab,(x.length:Int)=m.ae/\∀y∈x,0<=y/\y<m.ak
 key:∀x∈ab,fC m x=true
theorem Vw {m:aL} {t ab:lL} (hs:eW m t=true) (hl:ab.length<=t.length) (hk:∀x∈ab,fC m x=true):MN m t ab:=by have lu:=lS hs;obtain ⟨⟨n1,n2⟩,n3,n4⟩:=aI lu;obtain ⟨k1,k2,k3,k4,k5⟩:=iW hs;exact ⟨lu,⟨⟨by omega,by omega⟩,by omega,by omega⟩,by omega,by omega,hl,k5,by omega,λx hx=>gv (hk x hx),hk⟩
theorem i_ {m:aL} {t ab:lL} (h:bg m t ab=true):MN m t ab:=by obtain ⟨hs,hc⟩:=tS h;obtain ⟨c1,c2⟩:=dJ hc;exact Vw hs (by omega) λx hx=>c2 x hx
theorem ub {m:aL} {t ab:lL} (h:MN m t ab) (k:Nat):((bO m t ab k).length:Int)=m.ae/\∀x∈bO m t ab k,x.length<=8:=by refine ⟨by rw [kU];have:=h.num;omega,λx hx=> ?_⟩;have:=iG m t ab _ x hx;have:=h.num;omega
theorem Dh (m:aL):Fn pG 99 [ky m] true (· = .aX [eI (if aW m=true then iM m else 0),eI (if aW m=true then 0 else 1)]):=by
 refine Fn.av 9 [.tmp 2,.tmp 3] func99 (hv:= ?_);have hi:=fB m;rcases hm:aW m with _|_
 . rw [hm] at hi;rw [if_neg (by simp),if_neg (by simp)];simp -dsimp -implicitDefEqProofs only [go_sem];refine aa hi ?_;simp -dsimp -implicitDefEqProofs only [go_sem]
 rw [hm] at hi;have hc:=lY m hm;rw [if_pos rfl,if_pos rfl];simp -dsimp -implicitDefEqProofs only [go_sem];refine aa hi ?_;simp -dsimp -implicitDefEqProofs only [go_sem];refine aa hc ?_;simp -dsimp -implicitDefEqProofs only [go_sem];all_goals (first|exact rfl|skip)
theorem IQ (m:aL) (t ab:lL) (h:t.length<=1048576) (h2:∀x∈t,x.length<=1048576) (h3:ab.length<=1048576) (h4:∀x∈ab,x.length<=1048576):Fn pG 118 [jQ m t,aQ ab] false (· = .aX [p9 (if bT m t ab=0 then az m t ab (t.getD 0 []).length else []),eI (bT m t ab)]):=by
 refine Fn.y5 (Fn.mono (post:=λx=>tv x (.aX [p9 (if bT m t ab=0 then az m t ab (t.getD 0 []).length else []),eI (bT m t ab)])) (Fn.bY 16 [.tmp 4,.tmp 5] func118 (hv:= ?_)) λx hx=>⟨_,hx,rfl⟩);have hc:=rb m t ab h h2 h3 h4;by_cases h0:bT m t ab=0
 . obtain ⟨hs,eZ⟩:=ir h0;obtain ⟨c1,c2⟩:=dJ eZ;have hF:=Vw hs (by omega) λx hx=>c2 x hx;have hp:=gu m t ab hF.pg hF.tl hF.le hF.t0 hF.row hF.wd hF.cut;rw [if_pos h0];rw [h0] at hc ⊢;have e:((0:Int) != 0)=false:=rfl;simp -dsimp -implicitDefEqProofs only [go_sem];refine aa hc ?_;simp -dsimp -implicitDefEqProofs only [go_sem,e];refine au hp (by simp [ax,ao,aq,aF]) ?_;simp -dsimp -implicitDefEqProofs only [go_sem]
 have e:(bT m t ab != 0)=true:=bne_iff_ne.2 h0;rw [if_neg h0];simp -dsimp -implicitDefEqProofs only [go_sem];refine aa hc ?_;simp -dsimp -implicitDefEqProofs only [go_sem,e]
theorem IS (m:aL) (t ab:lL) (h:t.length<=1048576) (h2:∀x∈t,x.length<=1048576) (h3:ab.length<=1048576) (h4:∀x∈ab,x.length<=1048576):Fn pG 101 [jQ m t,aQ ab] false (· = .aX [p9 (if bT m t ab=0 then az m t ab (t.getD 0 []).length else []),eI (bT m t ab)]):=by
 refine Fn.y5 (Fn.mono (post:=λx=>tv x (.aX [p9 (if bT m t ab=0 then az m t ab (t.getD 0 []).length else []),eI (bT m t ab)])) (Fn.bY 16 [.tmp 4,.tmp 5] func101 (hv:= ?_)) λx hx=>⟨_,hx,rfl⟩);have hc:=tT m t ab h h2 h3 h4;by_cases h0:bT m t ab=0
 . obtain ⟨hs,eZ⟩:=ir h0;obtain ⟨c1,c2⟩:=dJ eZ;have hF:=Vw hs (by omega) λx hx=>c2 x hx;have hp:=kV m t ab hF.pg (by omega) hF.le hF.t0 hF.row (by have:=hF.wd;omega) λx hx=>(hF.cut x hx).1;rw [if_pos h0];rw [h0] at hc ⊢;have e:((0:Int) != 0)=false:=rfl;simp -dsimp -implicitDefEqProofs only [go_sem];refine aa hc ?_;simp -dsimp -implicitDefEqProofs only [go_sem,e];refine au hp (by simp [ax,ao,aq,aF]) ?_;simp -dsimp -implicitDefEqProofs only [go_sem]
 have e:(bT m t ab != 0)=true:=bne_iff_ne.2 h0;rw [if_neg h0];simp -dsimp -implicitDefEqProofs only [go_sem];refine aa hc ?_;simp -dsimp -implicitDefEqProofs only [go_sem,e]
def mT (m:aL) (t ab:lL):lL:=if bT m t ab=0 then gS m t ab else []
theorem uc (m:aL) (t ab:lL) (h:t.length<=1048576) (h2:∀x∈t,x.length<=1048576) (h3:ab.length<=1048576) (h4:∀x∈ab,x.length<=1048576):Fn pG 178 [jQ m t,aQ ab] false (· = .aX [aQ (mT m t ab),eI (bT m t ab)]):=by
 refine Fn.y5 (Fn.mono (post:=λx=>tv x (.aX [aQ (mT m t ab),eI (bT m t ab)])) (Fn.bY 16 [.tmp 4,.tmp 5] func178 (hv:= ?_)) λx hx=>⟨_,hx,rfl⟩);have hc:=rb m t ab h h2 h3 h4;unfold mT;by_cases h0:bT m t ab=0
 . obtain ⟨hs,eZ⟩:=ir h0;obtain ⟨c1,c2⟩:=dJ eZ;have hF:=Vw hs (by omega) λx hx=>c2 x hx;have hp:=nH m t ab hF.pg hF.tl hF.le hF.t0 hF.row hF.wd hF.cut;rw [if_pos h0];rw [h0] at hc ⊢;have e:((0:Int) != 0)=false:=rfl;simp -dsimp -implicitDefEqProofs only [go_sem];refine aa hc ?_;simp -dsimp -implicitDefEqProofs only [go_sem,e];refine au hp (by simp [ax,ao,aq,aF]) ?_;simp -dsimp -implicitDefEqProofs only [go_sem]
 have e:(bT m t ab != 0)=true:=bne_iff_ne.2 h0;rw [if_neg h0];simp -dsimp -implicitDefEqProofs only [go_sem];refine aa hc ?_;simp -dsimp -implicitDefEqProofs only [go_sem,e]
theorem ud (m:aL) (t ab:lL) (h:t.length<=1048576) (h2:∀x∈t,x.length<=1048576) (h3:ab.length<=1048576) (h4:∀x∈ab,x.length<=1048576):Fn pG 97 [jQ m t,aQ ab] false (· = .aX [aQ (mT m t ab),eI (bT m t ab)]):=by
 refine Fn.y5 (Fn.mono (post:=λx=>tv x (.aX [aQ (mT m t ab),eI (bT m t ab)])) (Fn.bY 16 [.tmp 4,.tmp 5] func97 (hv:= ?_)) λx hx=>⟨_,hx,rfl⟩);have hc:=tT m t ab h h2 h3 h4;unfold mT;by_cases h0:bT m t ab=0
 . obtain ⟨hs,eZ⟩:=ir h0;obtain ⟨c1,c2⟩:=dJ eZ;have hF:=Vw hs (by omega) λx hx=>c2 x hx;have hp:=q_ m t ab hF.pg (by have:=hF.tl;omega) hF.le hF.t0 hF.row hF.wd λx hx=>(hF.cut x hx).1;rw [if_pos h0];rw [h0] at hc ⊢;have e:((0:Int) != 0)=false:=rfl;simp -dsimp -implicitDefEqProofs only [go_sem];refine aa hc ?_;simp -dsimp -implicitDefEqProofs only [go_sem,e];refine au hp (by simp [ax,ao,aq,aF]) ?_;simp -dsimp -implicitDefEqProofs only [go_sem]
 have e:(bT m t ab != 0)=true:=bne_iff_ne.2 h0;rw [if_neg h0];simp -dsimp -implicitDefEqProofs only [go_sem];refine aa hc ?_;simp -dsimp -implicitDefEqProofs only [go_sem,e]
def fR (l:lL):Int:=(l.map λs=>(s.length:Int)-1).sum
theorem B' (l:lL) (i:Nat) (hi:i<l.length):fR (l.take (i+1))=fR (l.take i)+((l[i].length:Int)-1):=by rw [eX hi,fR,cP,List.sum_append];simp [fR]
theorem Di (l:lL) (h:∀x∈l,x.length<=8): -(l.length:Int)<=fR l/\fR l<=7*l.length:=by
 induction l with
 |nil=>simp [fR]
 |cons x r ih=>
  have h1:=h x (List.mem_cons_self ..);have h2:=ih λy hy=>h y (List.mem_cons_of_mem _ hy);have e:fR (x::r)=((x.length:Int)-1)+fR r:=by simp [fR]
  rw [e,dR];omega
theorem IT (l:lL) (h:l.length<=1000) (h2:∀x∈l,x.length<=8):Fn pG 266 [sM l] true (· =eI (fR l)):=by
 refine Fn.av 20 [.tmp 2] func266 (hv:= ?_);have hb:∀i, -(1000:Int)<=fR (l.take i)/\fR (l.take i)<=7000:=λi=>by
  have:=Di (l.take i) λx hx=>h2 x (fq hx);have:(l.take i).length<=1000:=by simp;omega
  omega
 simp -dsimp -implicitDefEqProofs only [go_sem];refine aj.up [7,8] [15] [] l.length (λ_=>True) (λi=>[(3,eI (fR (l.take i))),(9,eI i)]) (λ_=>[]) trivial ?_ rfl (λi hi _=> ?_) (λ_=> ?_)
 . simp -dsimp -implicitDefEqProofs only [go_sem];all_goals first|rfl|skip
 . have gi:=get_some hi;have hx:=h2 _ (uq9 hi);have b1:=hb i;rw [B' l i hi];generalize fR (l.take i)=W at*;generalize l[i]=x at*;simp -dsimp -implicitDefEqProofs only [go_sem,aE hi,gi];((with_reducible and_intros);all_goals try first|omega|(refine ⟨?_,?_⟩<;>omega)|exact rfl)
 simp -dsimp -implicitDefEqProofs only [go_sem,ay,e7]
theorem Ga (l:lL) (h:l.length<=1000) (h2:∀x∈l,x.length<=8):Fn pG 194 [sM l] true (· =eI (fR l)):=by
 refine Fn.av 22 [.tmp 2] func194 (hv:= ?_);have hb:∀i, -(1000:Int)<=fR (l.take i)/\fR (l.take i)<=7000:=λi=>by
  have:=Di (l.take i) λx hx=>h2 x (fq hx);have:(l.take i).length<=1000:=by simp;omega
  omega
 simp -dsimp -implicitDefEqProofs only [go_sem];refine aj.up [1] [8,18] [] l.length (λ_=>True) (λi=>[(3,eI (fR (l.take i))),(4,eI i)]) (λ_=>[]) trivial ?_ rfl (λi hi _=> ?_) (λ_=> ?_)
 . simp -dsimp -implicitDefEqProofs only [go_sem];all_goals first|rfl|skip
 . have gi:=get_some hi;have hx:=h2 _ (uq9 hi);have b1:=hb i;rw [B' l i hi];generalize fR (l.take i)=W at*;generalize l[i]=x at*;simp -dsimp -implicitDefEqProofs only [go_sem,aE hi,gi];((with_reducible and_intros);all_goals try first|omega|(refine ⟨?_,?_⟩<;>omega)|exact rfl);all_goals first|(congr 1;omega)|(first|omega|(refine ⟨?_,?_⟩<;>omega)|exact rfl|(simp;done)|skip)
 simp -dsimp -implicitDefEqProofs only [go_sem,ay,e7]
def j5 (ls:List lL):Int:=(ls.map fR).sum
theorem Ca (ls:List lL) (i:Nat) (hi:i<ls.length):j5 (ls.take (i+1))=j5 (ls.take i)+fR ls[i]:=by rw [eX hi,j5,cP,List.sum_append];simp [j5]
theorem J4 (ls:List lL) (h:∀l∈ls, -1000<=fR l/\fR l<=7000): -1000*(ls.length:Int)<=j5 ls/\j5 ls<=7000*ls.length:=by
 induction ls with
 |nil=>simp [j5]
 |cons x r ih=>
  have h1:=h x (List.mem_cons_self ..);have h2:=ih λy hy=>h y (List.mem_cons_of_mem _ hy);have e:j5 (x::r)=fR x+j5 r:=by simp [j5]
  rw [e,dR];omega
theorem l4 {m:aL} {t ab:lL} {n:Nat} {l:lL} (h:l∈az m t ab n):∃k,k<n/\l=bO m t ab k:=by simp only [az,List.mem_map,List.mem_range] at h;obtain ⟨k,hk,rfl⟩:=h;exact ⟨k,hk,rfl⟩
theorem ue {m:aL} {t ab:lL} (hF:MN m t ab) (n:Nat):∀l∈az m t ab n,l.length<=1000/\(∀x∈l,x.length<=8)/\ -1000<=fR l/\fR l<=7000:=by intro l hl;obtain ⟨k,_,rfl⟩:=l4 hl;obtain ⟨h1,h2⟩:=ub hF k;have:=hF.num;have:=Di _ h2;exact ⟨by omega,h2,by omega,by omega⟩
def oq (m:aL) (t ab:lL):Int:=j5 (az m t ab (t.getD 0 []).length)
theorem y6 (m:aL) (t ab:lL) (hF:MN m t ab):Fn pG 234 [jQ m t,aQ ab] true (· =eI (oq m t ab)):=by
 refine Fn.av 22 [.tmp 4] func234 (hv:= ?_);have hp:=gu m t ab hF.pg hF.tl hF.le hF.t0 hF.row hF.wd hF.cut;have hw:=ue hF (t.getD 0 []).length;have hll:(az m t ab (t.getD 0 []).length).length<=1000:=by rw [az,b6,bd];exact hF.wd
 unfold oq;generalize az m t ab (t.getD 0 []).length=ls at*;have hb:∀i, -(1000000:Int)<=j5 (ls.take i)/\j5 (ls.take i)<=7000000:=λi=>by
  have:=J4 (ls.take i) λx hx=>(hw x (fq hx)).2.2;have:(ls.take i).length<=1000:=by simp;omega
  omega
 simp -dsimp -implicitDefEqProofs only [go_sem];refine au hp (by simp [ax,ao,aq,aF]) ?_;simp -dsimp -implicitDefEqProofs only [go_sem];refine aj.up [10,11] [7,18] [] ls.length (λ_=>True) (λi=>[(5,eI (j5 (ls.take i))),(12,eI i)]) (λ_=>[]) trivial ?_ rfl (λi hi _=> ?_) (λ_=> ?_)
 . simp -dsimp -implicitDefEqProofs only [go_sem];all_goals first|rfl|skip
 . have gi:=get_some hi;have hx:=hw _ (uq9 hi);have b1:=hb i;have hcw:=IT ls[i] hx.1 hx.2.1;rw [Ca ls i hi];generalize j5 (ls.take i)=W at*;generalize ls[i]=x at*;simp -dsimp -implicitDefEqProofs only [go_sem,aE hi,gi];((with_reducible and_intros);all_goals try omega);refine aa hcw ?_;simp -dsimp -implicitDefEqProofs only [go_sem];((with_reducible and_intros);all_goals try first|(refine ⟨?_,?_⟩<;>omega)|exact rfl)
 simp -dsimp -implicitDefEqProofs only [go_sem,ay,e7]
theorem v7 (m:aL) (t ab:lL) (h:t.length<=1048576) (h2:∀x∈t,x.length<=1048576) (h3:ab.length<=1048576) (h4:∀x∈ab,x.length<=1048576):Fn pG 181 [jQ m t,aQ ab] true (· = .aX [eI (if bg m t ab=true then oq m t ab else 0),eI (if bg m t ab=true then 0 else 1)]):=by
 refine Fn.av 16 [.tmp 4,.tmp 5] func181 (hv:= ?_);have hc:=ki m t ab h h2 h3 h4;rcases hd:bg m t ab with _|_
 . rw [hd,if_neg (by simp)] at hc;rw [if_neg (by simp),if_neg (by simp)];have e:((1:Int) != 0)=true:=rfl;simp -dsimp -implicitDefEqProofs only [go_sem];refine aa hc ?_;simp -dsimp -implicitDefEqProofs only [go_sem,e]
 rw [hd,if_pos rfl] at hc;rw [if_pos rfl,if_pos rfl];have hs:=y6 m t ab (i_ hd);have e:((0:Int) != 0)=false:=rfl;simp -dsimp -implicitDefEqProofs only [go_sem];refine aa hc ?_;simp -dsimp -implicitDefEqProofs only [go_sem,e];refine aa hs ?_;simp -dsimp -implicitDefEqProofs only [go_sem]
theorem Gb (m:aL) (t ab:lL) (hF:MN m t ab):Fn pG 144 [jQ m t,aQ ab] true (· =eI (oq m t ab)):=by
 refine Fn.av 25 [.tmp 4] func144 (hv:= ?_);have hp:=kV m t ab hF.pg (by have:=hF.tl;have:=hF.le;omega) hF.le hF.t0 hF.row (by have:=hF.wd;omega) λx hx=>(hF.cut x hx).1;have hw:=ue hF (t.getD 0 []).length;have hll:(az m t ab (t.getD 0 []).length).length<=1000:=by rw [az,b6,bd];exact hF.wd
 unfold oq;generalize az m t ab (t.getD 0 []).length=ls at*;have hb:∀i, -(1000000:Int)<=j5 (ls.take i)/\j5 (ls.take i)<=7000000:=λi=>by
  have:=J4 (ls.take i) λx hx=>(hw x (fq hx)).2.2;have:(ls.take i).length<=1000:=by simp;omega
  omega
 simp -dsimp -implicitDefEqProofs only [go_sem];refine au hp (by simp [ax,ao,aq,aF]) ?_;simp -dsimp -implicitDefEqProofs only [go_sem];refine aj.up [5] [13,22] [] ls.length (λ_=>True) (λi=>[(6,eI (j5 (ls.take i))),(7,eI i)]) (λ_=>[]) trivial ?_ rfl (λi hi _=> ?_) (λ_=> ?_)
 . simp -dsimp -implicitDefEqProofs only [go_sem];all_goals first|rfl|skip
 . have gi:=get_some hi;have hx:=hw _ (uq9 hi);have b1:=hb i;have hcw:=Ga ls[i] hx.1 hx.2.1;rw [Ca ls i hi];generalize j5 (ls.take i)=W at*;generalize ls[i]=x at*;simp -dsimp -implicitDefEqProofs only [go_sem,aE hi,gi];((with_reducible and_intros);all_goals try omega);refine aa hcw ?_;simp -dsimp -implicitDefEqProofs only [go_sem];((with_reducible and_intros);all_goals try first|(refine ⟨?_,?_⟩<;>omega)|exact rfl)
 simp -dsimp -implicitDefEqProofs only [go_sem,ay,e7]
theorem v8 (m:aL) (t ab:lL) (h:t.length<=1048576) (h2:∀x∈t,x.length<=1048576) (h3:ab.length<=1048576) (h4:∀x∈ab,x.length<=1048576):Fn pG 100 [jQ m t,aQ ab] true (· = .aX [eI (if bg m t ab=true then oq m t ab else 0),eI (if bg m t ab=true then 0 else 1)]):=by
 refine Fn.av 16 [.tmp 4,.tmp 5] func100 (hv:= ?_);have hc:=pW m t ab h h2 h3 h4;rcases hd:bg m t ab with _|_
 . rw [hd,if_neg (by simp)] at hc;rw [if_neg (by simp),if_neg (by simp)];have e:((1:Int) != 0)=true:=rfl;simp -dsimp -implicitDefEqProofs only [go_sem];refine aa hc ?_;simp -dsimp -implicitDefEqProofs only [go_sem,e]
 rw [hd,if_pos rfl] at hc;rw [if_pos rfl,if_pos rfl];have hs:=Gb m t ab (i_ hd);have e:((0:Int) != 0)=false:=rfl;simp -dsimp -implicitDefEqProofs only [go_sem];refine aa hc ?_;simp -dsimp -implicitDefEqProofs only [go_sem,e];refine aa hs ?_;simp -dsimp -implicitDefEqProofs only [go_sem]
def bB (ls:List lL) (c:lI):Nat->lI
 |0=>[]
 |n+1=>if dV (ls.getD n []) c=true then bB ls c n++[(n:Int)] else bB ls c n
theorem gw (ls:List lL) (c:lI):∀n,(bB ls c n).length<=n
 |0=>ko _
 |n+1=>by
  have:=gw ls c n;rw [bB];split
  . simp;omega
  omega
theorem uf (ls:List lL) (c:lI):∀n,∀x∈bB ls c n,0<=x/\x<n
 |0,x,h=>by cases h
 |n+1,x,h=>by
  rw [bB] at h;split at h
  . rcases List.mem_append.1 h with h|h
    . have:=uf ls c n x h;omega
    simp at h;omega
  have:=uf ls c n x h;omega
theorem me (ls:List lL) (c:lI) (h:ls.length<=1000) (hl:∀l∈ls,c.length<=l.length/\l.length<=1048576/\∀x∈l,x.length<=1048576):Fn pG 169 [p9 ls,aP c] true (· =aP (bB ls c ls.length)):=by
 refine Fn.av 25 [.tmp 4] func169 (hv:= ?_);simp -dsimp -implicitDefEqProofs only [go_sem];refine aj.up [1,9,10] [7,18,21,22] [8] ls.length (λ_=>True) (λi=>[(5,.ref 8 0 0 (bB ls c i).length),(11,eI i)]) (λi=>[(8,.row 0 ⟨1,false⟩ true ((bB ls c i).map eI))]) trivial ?_ rfl (λi hi _=> ?_) (λ_=> ?_)
 . simp -dsimp -implicitDefEqProofs only [go_sem,bB,bI,cQ]
 . have gi:=get_some hi;have hx:=hl _ (uq9 hi);have ho:=Da ls[i] c hx.1 hx.2.1 hx.2.2;have eg:ls.getD i []=ls[i]:=(by rw [uq7,gi];rfl);have hdl:=gw ls c i;rw [bB,eg];generalize bB ls c i=D at*;have tD:dD D.length (D.map eI)=D.map eI:=cm (by simp);generalize ls[i]=l at*;rcases hb:dV l c with _|_
   . rw [hb] at ho;rw [if_neg (by simp)];simp -dsimp -implicitDefEqProofs only [go_sem,aE hi,gi];((with_reducible and_intros);all_goals try omega);refine aa ho ?_;simp -dsimp -implicitDefEqProofs only [go_sem];((with_reducible and_intros);all_goals try first|(refine ⟨?_,?_⟩<;>omega)|exact rfl)
   rw [hb] at ho;rw [if_pos rfl,cP,gW,bj,List.length_singleton];simp -dsimp -implicitDefEqProofs only [go_sem,aE hi,gi];((with_reducible and_intros);all_goals try omega);refine aa ho ?_;simp -dsimp -implicitDefEqProofs only [go_sem,tD];((with_reducible and_intros);all_goals try first|omega|(refine ⟨?_,?_⟩<;>omega)|exact rfl)
 generalize hD:bB ls c ls.length=D at*;simp -dsimp -implicitDefEqProofs only [go_sem,ay];all_goals first|(simp;done)|(first|omega|(refine ⟨?_,?_⟩<;>omega)|exact rfl|(simp;done)|skip)
theorem ru {m:aL} {t ab:lL} (hF:MN m t ab) {c:lI} (hc:(c.length:Int)=m.ae) (n:Nat):∀l∈az m t ab n,c.length<=l.length/\l.length<=1048576/\∀x∈l,x.length<=1048576:=by intro l hl;obtain ⟨k,_,rfl⟩:=l4 hl;obtain ⟨h1,h2⟩:=ub hF k;have:=hF.num;exact ⟨by omega,by omega,λx hx=>by have:=h2 x hx;omega⟩
def Gc (m:aL) (t ab:lL) (c:lI):lI:=bB (az m t ab (t.getD 0 []).length) c (t.getD 0 []).length
def Cb (m:aL) (t ab:lL) (c:lI):lI × Int:=if bg m t ab=true then if fault m c=0 then (Gc m t ab c,0) else ([],2) else ([],1)
theorem Qa {m:aL} {t ab:lL} {c:lI}:(Cb m t ab c).1.length<=12/\∀x∈(Cb m t ab c).1,0<=x/\x<=1000000000000:=by
 unfold Cb;split
 . rename_i h;obtain ⟨k1,k2,k3,k4,k5⟩:=iW (tS h).1;split
   . refine ⟨Nat.le_trans (gw _ _ _) k4,λx hx=> ?_⟩;have:=uf _ _ _ x hx;omega
   simp
 simp
theorem y7 (m:aL) (t ab:lL) (h:t.length<=1048576) (h2:∀x∈t,x.length<=1048576) (h3:ab.length<=1048576) (h4:∀x∈ab,x.length<=1048576) (c:lI) (h5:c.length<=1048576):Fn pG 121 [jQ m t,aQ ab,aP c] true (· = .aX [aP (Cb m t ab c).1,eI (Cb m t ab c).2]):=by
 refine Fn.av 25 [.tmp 6,.tmp 7] func121 (hv:= ?_);have hc:=ki m t ab h h2 h3 h4;unfold Cb;rcases hd:bg m t ab with _|_
 . rw [hd,if_neg (by simp)] at hc;rw [if_neg (by simp)];have e:((1:Int) != 0)=true:=rfl;simp -dsimp -implicitDefEqProofs only [go_sem];refine aa hc ?_;simp -dsimp -implicitDefEqProofs only [go_sem,e]
 rw [hd,if_pos rfl] at hc;have hF:=i_ hd;have hk:=C' m c hF.pg h5;have e:((0:Int) != 0)=false:=rfl;rw [if_pos rfl];by_cases hf:fault m c=0
 . have e2:fC m c=true:=beq_iff_eq.2 hf;rw [e2] at hk;rw [if_pos hf];have hcl:=(gv e2).1;have hp:=gu m t ab hF.pg hF.tl hF.le hF.t0 hF.row hF.wd hF.cut;have hll:(az m t ab (t.getD 0 []).length).length=(t.getD 0 []).length:=(by rw [az,b6,bd]);have ho:=me (az m t ab (t.getD 0 []).length) c (by rw [hll];exact hF.wd) (ru hF hcl _);rw [hll] at ho;unfold Gc;simp -dsimp -implicitDefEqProofs only [go_sem];refine aa hc ?_;simp -dsimp -implicitDefEqProofs only [go_sem,e];refine aa hk ?_;simp -dsimp -implicitDefEqProofs only [go_sem];refine au hp (by simp [ax,ao,aq,aF]) ?_;simp -dsimp -implicitDefEqProofs only [go_sem];refine aa ho ?_;simp -dsimp -implicitDefEqProofs only [go_sem];all_goals first|(simp;done)|(first|omega|(refine ⟨?_,?_⟩<;>omega)|exact rfl|(simp;done)|skip)
 have e2:fC m c=false:=beq_eq_false_iff_ne.2 hf;rw [e2] at hk;rw [if_neg hf];simp -dsimp -implicitDefEqProofs only [go_sem];refine aa hc ?_;simp -dsimp -implicitDefEqProofs only [go_sem,e];refine aa hk ?_;simp -dsimp -implicitDefEqProofs only [go_sem]
theorem y8 (m:aL) (t ab:lL) (hF:MN m t ab) (c:lI) (hc:(c.length:Int)=m.ae):Fn pG 150 [jQ m t,aQ ab,aP c] true (· =aP (Gc m t ab c)):=by
 refine Fn.av 31 [.tmp 6] func150 (hv:= ?_);have hp:=kV m t ab hF.pg (by have:=hF.tl;have:=hF.le;omega) hF.le hF.t0 hF.row (by have:=hF.wd;omega) λx hx=>(hF.cut x hx).1;have hl:=ru hF hc (t.getD 0 []).length;have hll:(az m t ab (t.getD 0 []).length).length=(t.getD 0 []).length:=by rw [az,b6,bd]
 have hwd:=hF.wd;unfold Gc;generalize az m t ab (t.getD 0 []).length=ls at*;rw [←hll] at hwd ⊢;simp -dsimp -implicitDefEqProofs only [go_sem];refine au hp (by simp [ax,ao,aq,aF]) ?_;simp -dsimp -implicitDefEqProofs only [go_sem];refine aj.up [2,7] [16,25,28,29] [13] ls.length (λ_=>True) (λi=>[(8,.ref 13 0 0 (bB ls c i).length),(9,eI i)]) (λi=>[(13,.row 0 ⟨1,false⟩ true ((bB ls c i).map eI))]) trivial ?_ rfl (λi hi _=> ?_) (λ_=> ?_)
 . simp -dsimp -implicitDefEqProofs only [go_sem,bB,bI,cQ]
 . have gi:=get_some hi;have hx:=hl _ (uq9 hi);have ho:=qZ ls[i] c hx.1 hx.2.1 hx.2.2;have eg:ls.getD i []=ls[i]:=(by rw [uq7,gi];rfl);have hdl:=gw ls c i;rw [bB,eg];generalize bB ls c i=D at*;have tD:dD D.length (D.map eI)=D.map eI:=cm (by simp);generalize ls[i]=l at*;rcases hb:dV l c with _|_
   . rw [hb] at ho;rw [if_neg (by simp)];simp -dsimp -implicitDefEqProofs only [go_sem,aE hi,gi];((with_reducible and_intros);all_goals try omega);refine aa ho ?_;simp -dsimp -implicitDefEqProofs only [go_sem];((with_reducible and_intros);all_goals try first|(refine ⟨?_,?_⟩<;>omega)|exact rfl)
   rw [hb] at ho;rw [if_pos rfl,cP,gW,bj,List.length_singleton];simp -dsimp -implicitDefEqProofs only [go_sem,aE hi,gi];((with_reducible and_intros);all_goals try omega);refine aa ho ?_;simp -dsimp -implicitDefEqProofs only [go_sem,tD];((with_reducible and_intros);all_goals try first|omega|(refine ⟨?_,?_⟩<;>omega)|exact rfl)
 generalize hD:bB ls c ls.length=D at*;simp -dsimp -implicitDefEqProofs only [go_sem,ay];all_goals first|(simp;done)|(first|omega|(refine ⟨?_,?_⟩<;>omega)|exact rfl|(simp;done)|skip)
theorem Qb (m:aL) (t ab:lL) (h:t.length<=1048576) (h2:∀x∈t,x.length<=1048576) (h3:ab.length<=1048576) (h4:∀x∈ab,x.length<=1048576) (c:lI) (h5:c.length<=1048576):Fn pG 149 [jQ m t,aQ ab,aP c] true (· =eI (Cb m t ab c).2):=by
 refine Fn.av 21 [.tmp 6] func149 (hv:= ?_);have hc:=pW m t ab h h2 h3 h4;unfold Cb;rcases hd:bg m t ab with _|_
 . rw [hd,if_neg (by simp)] at hc;rw [if_neg (by simp)];have e:((1:Int)==0)=false:=rfl;simp -dsimp -implicitDefEqProofs only [go_sem];refine aa hc ?_;simp -dsimp -implicitDefEqProofs only [go_sem,e]
 rw [hd,if_pos rfl] at hc;have hF:=i_ hd;have hk:=nF m c hF.pg h5;have e:((0:Int)==0)=true:=rfl;rw [if_pos rfl];by_cases hf:fault m c=0
 . have e3:((0:Int) != 0)=false:=rfl;rw [hf] at hk;rw [if_pos hf];simp -dsimp -implicitDefEqProofs only [go_sem];refine aa hc ?_;simp -dsimp -implicitDefEqProofs only [go_sem,e];refine aa hk ?_;simp -dsimp -implicitDefEqProofs only [go_sem,e3]
 have e3:(fault m c != 0)=true:=bne_iff_ne.2 hf;rw [if_neg hf];simp -dsimp -implicitDefEqProofs only [go_sem];refine aa hc ?_;simp -dsimp -implicitDefEqProofs only [go_sem,e];refine aa hk ?_;simp -dsimp -implicitDefEqProofs only [go_sem,e3]
theorem y9 (m:aL) (t ab:lL) (h:t.length<=1048576) (h2:∀x∈t,x.length<=1048576) (h3:ab.length<=1048576) (h4:∀x∈ab,x.length<=1048576) (c:lI) (h5:c.length<=1048576):Fn pG 104 [jQ m t,aQ ab,aP c] true (· = .aX [aP (Cb m t ab c).1,eI (Cb m t ab c).2]):=by
 refine Fn.av 20 [.tmp 6,.tmp 7] func104 (hv:= ?_);have hc:=Qb m t ab h h2 h3 h4 c h5;unfold Cb at hc ⊢;rcases hd:bg m t ab with _|_
 . rw [hd,if_neg (by simp)] at hc;rw [if_neg (by simp)];have e:((1:Int) != 0)=true:=rfl;simp -dsimp -implicitDefEqProofs only [go_sem];refine aa hc ?_;simp -dsimp -implicitDefEqProofs only [go_sem,e]
 rw [hd,if_pos rfl] at hc;have hF:=i_ hd;rw [if_pos rfl];by_cases hf:fault m c=0
 . have e:((0:Int) != 0)=false:=rfl;rw [if_pos hf] at hc ⊢;have hD:=y8 m t ab hF c (gv (beq_iff_eq.2 hf)).1;simp -dsimp -implicitDefEqProofs only [go_sem];refine aa hc ?_;simp -dsimp -implicitDefEqProofs only [go_sem,e];refine aa hD ?_;simp -dsimp -implicitDefEqProofs only [go_sem];all_goals first|(simp;done)|(first|omega|(refine ⟨?_,?_⟩<;>omega)|exact rfl|(simp;done)|skip)
 have e:((2:Int) != 0)=true:=rfl;rw [if_neg hf] at hc ⊢;simp -dsimp -implicitDefEqProofs only [go_sem];refine aa hc ?_;simp -dsimp -implicitDefEqProofs only [go_sem,e]
def DP (ks:lL) (k:lI):Bool:=ks.any λx=>decide (x=k)
theorem Qc {ks:lL} {k:lI} (h:∀i (hi:i<ks.length),decide (ks[i]=k)=false):DP ks k=false:=by unfold DP;rw [List.any_eq_false];intro x hx;obtain ⟨i,hi,rfl⟩:=List.getElem_of_mem hx;rw [h i hi];simp
theorem J5 {ks:lL} {k:lI} {i:Nat} (hi:i<ks.length) (h:decide (ks[i]=k)=true):DP ks k=true:=by unfold DP;rw [List.any_eq_true];exact ⟨_,uq9 hi,h⟩
theorem Qd (ks:lL) (k:lI) (h:ks.length<=1048576) (h2:∀x∈ks,x.length<=1048576):Fn pG 193 [aQ ks,aP k] true (· =eB (DP ks k)):=by
 refine Fn.av 18 [.tmp 4] func193 (hv:= ?_);simp -dsimp -implicitDefEqProofs only [go_sem];refine aj.up [0,1] [8,17] [] ks.length (λi=>∀j (hj:j<ks.length),j<i->decide (ks[j]=k)=false) (λi=>[(5,eI i)]) (λ_=>[]) (λj _ h=>absurd h (DE _)) ?_ rfl (λi hi hI=> ?_) (λhI=> ?_)
 . simp -dsimp -implicitDefEqProofs only [go_sem]
 . have gi:=get_some hi;have hc:=Md ks[i] k (by have:=h2 _ (uq9 hi);omega);rcases hv:decide (ks[i]=k) with _|_
   . rw [hv] at hc;have hI':∀j (hj:j<ks.length),j<i+1->decide (ks[j]=k)=false:=λj hj h=>by
      by_cases hji:j=i
      . subst hji;exact hv
      exact hI j hj (by omega)
     clear hI hv;generalize ks[i]=x at*;simp -dsimp -implicitDefEqProofs only [go_sem,gi,aE hi];((with_reducible and_intros);all_goals try omega);refine aa hc ?_;simp -dsimp -implicitDefEqProofs only [go_sem];((with_reducible and_intros);all_goals try first|omega|(refine ⟨?_,?_⟩<;>omega)|exact rfl)
   rw [hv] at hc;rw [J5 hi hv];clear hI hv;generalize ks[i]=x at*;simp -dsimp -implicitDefEqProofs only [go_sem,gi,aE hi];((with_reducible and_intros);all_goals try omega);refine aa hc ?_;simp -dsimp -implicitDefEqProofs only [go_sem]
 rw [Qc λj hj=>hI j hj hj];simp -dsimp -implicitDefEqProofs only [go_sem,ay]
theorem y_ (ks:lL) (k:lI) (h:ks.length<=1048576) (h2:∀x∈ks,x.length<=1048576):Fn pG 224 [aQ ks,aP k] true (· =eB (DP ks k)):=by
 refine Fn.av 8 [.tmp 4] func224 (hv:= ?_);have zt:(∀i (hi:i<ks.length),decide (ks[i]=k)=false)->DP ks k=false:=λh=>Qc h;have hno:∀i (hi:i<ks.length),decide (ks[i]=k)=true->DP ks k=true:=λi hi h=>J5 hi h;generalize DP ks k=ok at zt hno;simp -dsimp -implicitDefEqProofs only [go_sem];refine bN 400000 9 [.tmp 4] func74 rfl rfl rfl rfl rfl (by exact oT rfl) ?_;simp -dsimp -implicitDefEqProofs only [go_sem];refine bN 410000 19 [.tmp 4] func89 rfl rfl rfl rfl rfl (by exact oT rfl) ?_;simp -dsimp -implicitDefEqProofs only [go_sem];refine aj.up [0,1,7] [16] [] ks.length (λi=>∀j (hj:j<ks.length),j<i->decide (ks[j]=k)=false) (λi=>[(8,eI i)]) (λ_=>[]) (λj _ h=>absurd h (DE _)) ?_ rfl (λi hi hI=> ?_) (λhI=> ?_)
 . simp -dsimp -implicitDefEqProofs only [go_sem]
 . have gi:=get_some hi;have li:=aE hi;have hc:=FW ks[i] k (by have:=h2 _ (uq9 hi);omega);rcases hv:decide (ks[i]=k) with _|_
   . rw [hv] at hc;have hI':∀j (hj:j<ks.length),j<i+1->decide (ks[j]=k)=false:=λj hj h=>by
      by_cases hji:j=i
      . subst hji;exact hv
      exact hI j hj (by omega)
     clear hno zt hI hv;generalize ks[i]=x at*;simp -dsimp -implicitDefEqProofs only [go_sem,gi,li];refine ⟨⟨by omega,by omega⟩,?_⟩;refine bN 420000 7 [.tmp 3] func263 rfl rfl rfl rfl rfl (by exact oT rfl) ?_;simp -dsimp -implicitDefEqProofs only [go_sem]
     repeat' first
      |(with_reducible refine ai ?_ ?_)
      |(refine aa (hc) ?_;try simp -dsimp -implicitDefEqProofs only [go_sem, *])
     (all_goals try first|omega|(refine ⟨?_,?_⟩<;>omega)|exact rfl|(simp;done))
   rw [hv] at hc;have hn:=hno i hi hv;clear hno zt hI hv;subst hn;generalize ks[i]=x at*;simp -dsimp -implicitDefEqProofs only [go_sem,gi,li];refine ⟨⟨by omega,by omega⟩,?_⟩;refine bN 420000 7 [.tmp 3] func263 rfl rfl rfl rfl rfl (by exact oT rfl) ?_;simp -dsimp -implicitDefEqProofs only [go_sem];repeat' (refine aa (hc) ?_;try simp -dsimp -implicitDefEqProofs only [go_sem, *])
   (all_goals try first|exact rfl|(simp;done))
 have hn:=zt λj hj=>hI j hj hj;clear hno zt hI;subst hn;simp -dsimp -implicitDefEqProofs only [go_sem,ay];(all_goals try first|exact rfl|(simp;done))
def Gd (ls:List lL) (k:lI) (n:Nat):Bool:=(ls.take n).any λl=>dV l k
theorem Cc {ls:List lL} {k:lI} {n:Nat} (h:n<ls.length):Gd ls k (n+1)=(Gd ls k n||dV ls[n] k):=by unfold Gd;rw [eX h,List.any_append];simp
def J6 (ls:List lL) (ab:lL) (k:lI):Bool:=Gd ls k ls.length&& !DP ab k
def SX (m:aL) (t ab:lL) (i:Nat):lL:=((bu m).take i).filter (J6 (az m t ab (t.getD 0 []).length) ab)
def cj (m:aL) (t ab:lL):lL:=(bu m).filter (J6 (az m t ab (t.getD 0 []).length) ab)
theorem Qe {m:aL} {t ab:lL} {i:Nat} {k:lI} (h:(bu m)[i]? =some k):SX m t ab (i+1)=SX m t ab i++if J6 (az m t ab (t.getD 0 []).length) ab k=true then [k] else []:=by unfold SX;rw [List.take_add_one,h,List.filter_append];congr 1;simp only [DG,List.filter_cons,List.filter_nil]
theorem J7 (m:aL) (t ab:lL):SX m t ab (bu m).length=cj m t ab:=by unfold SX cj;rw [e7]
theorem MO {m:aL} (hm:aW m=true):(bu m).length<=262144:=by have ⟨⟨n1,n2⟩,n3,n4⟩:=aI hm;have:(bu m).length<=8^6:=Nat.le_trans (kh m hm _ _) (Nat.pow_le_pow_right (by decide) (by omega));omega
theorem J8 {m:aL} (hm:aW m=true) (t ab:lL) (i:Nat):(SX m t ab i).length<=262144:=by unfold SX;refine Nat.le_trans (List.length_filter_le ..) ?_;have:=MO hm;rw [List.length_take];omega
theorem ry {m:aL} (hm:aW m=true) (t ab:lL):(cj m t ab).length<=262144:=by rw [←J7];exact J8 hm t ab _
theorem ph (m:aL) (t ab:lL) (hF:MN m t ab):Fn pG 142 [jQ m t,aQ ab,eB true] false (· =aQ (cj m t ab)):=by
 refine Fn.y5 (Fn.mono (post:=λx=>tv x (aQ (cj m t ab))) (Fn.bY 60 [.tmp 6] func142 (hv:= ?_)) λx hx=>⟨_,hx,rfl⟩);have hp:=kV m t ab hF.pg (by have:=hF.tl;have:=hF.le;omega) hF.le hF.t0 hF.row (by have:=hF.wd;omega) λx hx=>(hF.cut x hx).1;have lu:=hF.pg;have s8:=hF.num;obtain ⟨k0,hk1,hf⟩:=yV lu;have hK:=λk (hk:k∈bu m)=>kj (m:=m) (by omega) hk;have hH:=λk=>Qd ab k (by have:=hF.tl;have:=hF.le;omega) (λx hx=>by have:=(hF.cut x hx).1;omega);have hO:=λ(k:lI) (hk:(k.length:Int)=m.ae)=>ru hF hk (t.getD 0 []).length;have hll:(az m t ab (t.getD 0 []).length).length<=1000:=by rw [az,b6,bd];exact hF.wd
 have Nb:=λi k=>@Qe m t ab i k;have hgl:=λi=>J8 lu t ab i;have hge:=J7 m t ab;have hg0:SX m t ab 0=[]:=rfl;generalize SX m t ab=G at*;generalize az m t ab (t.getD 0 []).length=ls at*;simp -dsimp -implicitDefEqProofs only [go_sem];refine au hp (by simp [ax,ao,aq,aF]) ?_;simp -dsimp -implicitDefEqProofs only [go_sem];refine au hf (by simp [ax,ao,aq,aF]) ?_;simp -dsimp -implicitDefEqProofs only [go_sem];refine aj.up [1,2,3,8] [26,37,45,50,51,56] [13] (bu m).length (λi=>True) (λi=>[(10,eB ((bu m)[i]?).isSome),(9,Mt ((bu m)[i]?)),(7,.ref 13 0 0 (G i).length)]) (λi=>[(13,.row 0 ⟨1,false⟩ (G i).isEmpty ((G i).map aP))]) trivial ?_ rfl (λi hi _=> ?_) (λ_=> ?_)
 . rw [hk1,hg0];simp -dsimp -implicitDefEqProofs only [go_sem,c_,Option.isSome_some,List.isEmpty_nil,cQ,bI]
 . have gi:=get_some hi;have hki:=hK _ (uq9 hi);generalize (bu m)[i]=k at*;have hs:=Nb i k gi;have YT:=hgl i;have hnx:=pX m k lu hki.len hki.el;rw [yT (by omega) gi] at hnx;have hE:∀C:lL,C.isEmpty=false\/C.length=0:=λC=>by cases C with|nil=>exact .inr rfl|cons=>exact .inl rfl
   have e2:=λK:lL=>show (K++[k]).map aP=K.map aP++[aP k] by simp
   have e3:=λK:lL=>show (K++[k]).isEmpty=false by simp
   have hkl:=hO k hki.len;have hhk:=hH k;clear Nb hgl hO hH;generalize G i=K at*;generalize G (i+1)=K2 at*;rw [gi];generalize (bu m)[i+1]? =o at*;rw [Dd] at hnx;clear hK;have tK:(K.map aP).take K.length=K.map aP:=cm (by simp);simp -dsimp -implicitDefEqProofs only [go_sem,c_,Option.isSome_some];refine aj.up [1,2,3,7,8,9] [26,37] [] ls.length (λ_=>True) (λj=>[(12,eI j),(11,eB (Gd ls k j))]) (λ_=>[]) trivial ?_ rfl (λj hj _=> ?_) (λ_=> ?_)
   . simp -dsimp -implicitDefEqProofs only [go_sem];all_goals try exact rfl
   . have gj:=get_some hj;have lj:=aE hj;have hx:=hkl _ (uq9 hj);have hop:=qZ ls[j] k hx.1 hx.2.1 hx.2.2;rw [Cc hj];generalize ls[j]=l at*;rcases hb:Gd ls k j with _|_
     . rw [Bool.false_or];generalize dV l k=b at*;simp -dsimp -implicitDefEqProofs only [go_sem,lj,gj];((with_reducible and_intros);all_goals try omega);refine aa hop ?_;simp -dsimp -implicitDefEqProofs only [go_sem];((with_reducible and_intros);all_goals try first|(refine ⟨?_,?_⟩<;>omega)|exact rfl)
     rw [Bool.true_or];simp -dsimp -implicitDefEqProofs only [go_sem,lj];((with_reducible and_intros);all_goals try first|(refine ⟨?_,?_⟩<;>omega)|exact rfl)
   unfold J6 at hs;rcases hb:Gd ls k ls.length with _|_
   . rw [hb,uq1,if_neg (by simp),List.append_nil] at hs;subst hs;have ebf:(false==true)=false:=rfl;simp -dsimp -implicitDefEqProofs only [go_sem,ay,ebf];refine au hnx (by simp [ax,ao,aq,aF]) ?_;cases o with
     |some k2=>
      simp -dsimp -implicitDefEqProofs only [go_sem,c_,Option.isSome_some]
     |none=>
      simp -dsimp -implicitDefEqProofs only [go_sem,fN,Option.isSome_none]
   rw [hb,uq3] at hs;have ebt:(true==true)=true:=rfl;rcases hin:DP ab k with _|_
   . rw [hin,if_pos (by simp)] at hs;rw [hin] at hhk;subst hs;simp -dsimp -implicitDefEqProofs only [go_sem,ay,ebt];refine aa hhk ?_;simp -dsimp -implicitDefEqProofs only [go_sem];refine .inr ⟨by omega,hE K,?_⟩;rw [←e2];refine au hnx (by simp [ax,ao,aq,aF]) ?_;cases o with
     |some k2=>
      simp -dsimp -implicitDefEqProofs only [go_sem,c_,Option.isSome_some,e3,e2]
     |none=>
      simp -dsimp -implicitDefEqProofs only [go_sem,fN,Option.isSome_none,e3,e2]
   rw [hin,if_neg (by simp),List.append_nil] at hs;rw [hin] at hhk;subst hs;simp -dsimp -implicitDefEqProofs only [go_sem,ay,ebt];refine aa hhk ?_;simp -dsimp -implicitDefEqProofs only [go_sem];refine au hnx (by simp [ax,ao,aq,aF]) ?_;cases o with
   |some k2=>
    simp -dsimp -implicitDefEqProofs only [go_sem,c_,Option.isSome_some]
   |none=>
    simp -dsimp -implicitDefEqProofs only [go_sem,fN,Option.isSome_none]
 rw [hge];have hn:(bu m)[(bu m).length]? =none:=by simp
 rw [hn];generalize cj m t ab=K at*;simp -dsimp -implicitDefEqProofs only [go_sem,fN,Option.isSome_none]
theorem za (m:aL) (t ab:lL) (h:t.length<=1048576) (h2:∀x∈t,x.length<=1048576) (h3:ab.length<=1048576) (h4:∀x∈ab,x.length<=1048576):Fn pG 98 [jQ m t,aQ ab] true (· = .aX [eI (if bg m t ab=true then (cj m t ab).length else 0),eI (if bg m t ab=true then 0 else 1)]):=by
 refine Fn.av 17 [.tmp 4,.tmp 5] func98 (hv:= ?_);have hc:=pW m t ab h h2 h3 h4;rcases hd:bg m t ab with _|_
 . rw [hd,if_neg (by simp)] at hc;rw [if_neg (by simp),if_neg (by simp)];have e:((1:Int) != 0)=true:=rfl;simp -dsimp -implicitDefEqProofs only [go_sem];refine aa hc ?_;simp -dsimp -implicitDefEqProofs only [go_sem,e]
 rw [hd,if_pos rfl] at hc;rw [if_pos rfl,if_pos rfl];have ho:=ph m t ab (i_ hd);have e:((0:Int) != 0)=false:=rfl;simp -dsimp -implicitDefEqProofs only [go_sem];refine aa hc ?_;simp -dsimp -implicitDefEqProofs only [go_sem,e];refine au ho (by simp [ax,ao,aq,aF]) ?_;simp -dsimp -implicitDefEqProofs only [go_sem]
open Go.RowKit
theorem SY (w:World) (ad:Option Addr) (n cap:Nat):CallsIn Fence.wide 1 pG 173 #[.slice ad n cap] w λe w'=>e= .returned (.func (.func 225) #[] #[.pointer (some ⟨w.heap.size,0,none⟩)])/\w'=w.alloc (.cells #[.slice ad n cap] 164):=by
 refine callsIn_of_wp func173 rfl trivial ?_ rfl;simp only [Tryz.ntmps173,List.size_toArray,dR,bI,Nat.reduceAdd,Nat.reduceSub,Array.replicate_succ,Array.replicate_zero,List.push_toArray,List.append_toArray,List.nil_append,List.cons_append]
 gi_wp2
 go_ret
 exact ⟨rfl,rfl⟩
theorem Qf (l pb po n cap:Nat) (ad:Option Addr) (b2 o2:Nat) (f:Nat->Option Addr × Nat × Nat) (S:nP) (J Jx:List (Fin n)->World->Prop) (W0:World)
 (hS:S pb/\(n=0\/S b2)) (hn:n<=1048576)
 (h1:W0.cell? ⟨pb,po,none⟩=some (.slice ad n cap)) (h2:n=0\/ad=some ⟨b2,o2,none⟩) (h3:∀i,i<n->W0.cell? ⟨b2,o2+i,none⟩=some (.slice (f i).1 (f i).2.1 (f i).2.2))
 (hY:∀pre (x:Fin n) W1,J pre W1->pre.length<n->YieldAt Fence.wide 0 pG l #[.int .i64 ((n-1-x.1:Nat):Int),.slice (f (n-1-x.1)).1 (f (n-1-x.1)).2.1 (f (n-1-x.1)).2.2] W1 λe W'=>
   (e= .returned (.bool true)/\J (pre++[x]) W'/\∀b,S b->W'.heap[b]? =W1.heap[b]?)\/(e= .returned (.bool false)/\Jx (pre++[x]) W'))
 (h0:J [] W0):CallsIn Fence.wide 0 pG 225 #[.func (.yield l) #[] #[],.pointer (some ⟨pb,po,none⟩)] W0 λe W'=>(∃v,e= .returned v)/\((∃xs,xs=List.finRange n/\J xs W')\/(∃pre,True/\Jx pre W')):=by
 refine callsIn_of_wp func225 rfl trivial ?_ rfl;simp only [Tryz.ntmps225,List.size_toArray,dR,bI,Nat.reduceAdd,Nat.reduceSub,Array.replicate_succ,Array.replicate_zero,List.push_toArray,List.append_toArray,List.nil_append,List.cons_append]
 gi_wp2
 gi_loopw [3] (λv wr=>∃k:Nat,k<=n/\v= .int .i64 ((n:Int)-1-k)/\J ((List.finRange n).take k) wr/\∀b,S b->wr.heap[b]? =W0.heap[b]?)
  (λv _=>((RowKit.intOf v)+1).toNat)
 case atStart=>exact ⟨0,Nat.zero_le _,by simp,by simpa using h0,λ_ _=>rfl⟩
 case round=>
  obtain ⟨k,hk,rfl,hJ,ja⟩:=hrel;have hc:wr.cell? ⟨pb,po,none⟩=some (.slice ad n cap):=(World.cell?_of_block (ja pb hS.1)).trans h1;by_cases hlt:k<n
  . obtain ⟨i,hi⟩:∃i:Nat,i=n-1-k:=⟨_,rfl⟩;have hi2:(n:Int)-1-k=(i:Int):=(by omega);have hin:i<n:=(by omega);have hb2:S b2:=hS.2.resolve_left (by omega);obtain rfl:=h2.resolve_left (by omega);have hc2:wr.cell? ⟨b2,o2+i,none⟩=some (.slice (f i).1 (f i).2.1 (f i).2.2):=(World.cell?_of_block (ja b2 hb2)).trans (h3 i hin);have hY2:=hY ((List.finRange n).take k) ⟨k,hlt⟩ wr hJ (by simp;omega);rw [←hi] at hY2;rw [hi2];generalize (f i).1=f1 at hY2 hc2;generalize (f i).2.1=f2 at hY2 hc2;generalize (f i).2.2=f3 at hY2 hc2;have HD:Hid (i=n-1-k):=hi;clear h1 h3 hY hi hi2 hk;obtain ⟨fn,tmps,assign,body,hy,hR⟩:=hY2
    gi_wp2
    refine ⟨rfl,hR.mono ?_⟩;rintro e W3 (⟨rfl,hJ3,hk3⟩|⟨rfl,YU⟩)
    . gi_wp2
      have hd:=HD.out;have ht:(List.finRange n).take (k+1)=(List.finRange n).take k++[⟨k,hlt⟩]:=by rw [List.take_add_one,uq8 (by simpa using hlt)];simp
      refine ⟨⟨k+1,hlt,?_,by rw [ht];exact hJ3,λb hb=>(hk3 b hb).trans (ja b hb)⟩,?_⟩
      . rw [show ((i:Int)-1)=(n:Int)-1-((k+1:Nat):Int) by omega]
      simp only [RowKit.intOf];omega
    gi_wp2
    refine bodyPost_ret (results_none rfl _ _ _) rfl ?_;exact ⟨⟨_,rfl⟩,.inr ⟨_,trivial,YU⟩⟩
  have hkn:k=n:=by omega
  have hi2:(n:Int)-1-k= -1:=by omega
  rw [hi2]
  gi_wp2
  go_end0
  rw [hkn,cm (by simp)] at hJ;exact ⟨⟨_,rfl⟩,.inl ⟨_,rfl,hJ⟩⟩
def gM (zs:lA):List (AV × AV):=(db zs.length).reverse.map λ(i:Nat)=>(eI (i:Int),zs.getD i .undef)
theorem p5 (zs:lA):(gM zs).length=zs.length:=by simp [gM]
theorem Cd (zs:lA) (i:Fin (gM zs).length):(gM zs)[i]=(eI ((zs.length-1-i.1:Nat):Int),zs.getD (zs.length-1-i.1) .undef):=by have hi:i.1<zs.length:=Nat.lt_of_lt_of_eq i.2 (p5 zs);show (gM zs)[i.1]=_;simp [gM,List.getElem_reverse]
theorem IU (zs:lA):Fn pG 173 [.arr ⟨1,false⟩ zs] false (λr=>r= .cn 225 [.bo ⟨1,false⟩ [.arr ⟨1,false⟩ zs] 0 0]):=by
 refine ⟨⟨_,_,func173,rfl,rfl⟩,λw S vs hS hk hsz hrd=> ?_⟩;have h0:=hrd 0 (by simp)
 obtain ⟨v,rfl⟩:∃v,vs= #[v]:=⟨vs[0]'(by rw [hsz];simp),by
  refine Array.ext (by simp [hsz]) λi h1 h2=> ?_;have:i=0:=by simp at h2;omega
  subst this;rfl⟩
 have h0:Rd w S (.arr ⟨1,false⟩ zs) v:=h0;have key:∀ad n cap,v= .slice ad n cap->Calls pG 173 #[v] w λe w'=>∃r v,e= .returned v/\r=AV.cn 225 [.bo ⟨1,false⟩ [.arr ⟨1,false⟩ zs] 0 0]/\Grown w w'/\iO w w' S false r v:=by
  rintro ad n cap rfl;refine (callsIn_wide.1 (SY w ad n cap)).mono ?_;rintro e w' ⟨rfl,rfl⟩;have hb:(w.alloc (.cells #[.slice ad n cap] 164)).heap[w.heap.size]? =some (.cells #[.slice ad n cap] 164 (0,0)):=World.alloc_heap_new w _;have hg:Grown w (w.alloc (.cells #[.slice ad n cap] 164)):=⟨by simp,λb hb=>Below.heap_alloc _ _ b hb,⟨rfl,rfl,rfl⟩⟩;refine ⟨_,_,rfl,rfl,hg,?_⟩;show Rd _ _ _ _;refine .cn _ _ _ rfl λi hi=> ?_;have:i=0:=by simp at hi;omega
  subst this
  have hr:Rd (w.alloc (.cells #[.slice ad n cap] 164)) (λb=>S b\/(w.heap.size<=b/\b<(w.alloc (.cells #[.slice ad n cap] 164)).heap.size)) (.arr ⟨1,false⟩ zs) (.slice ad n cap):=
   h0.mono (λb hb=>hg.same b (hS b hb)) λb hb=>.inl hb
  refine .bo ⟨1,false⟩ [.arr ⟨1,false⟩ zs] 0 0 w.heap.size 0 #[.slice ad n cap] _ _ (.inr ⟨ko _,by simp⟩) hb (by simp) (λi hi=> ?_) λi hi=> ?_
  . have:i=0:=(by simp at hi;omega);subst this;exact ⟨rfl,rfl⟩
  have:i=0:=by simp at hi;omega
  subst this;exact hr
 cases h0 with
 |nil sh a=>exact key _ _ _ rfl
 |arr sh xs b off cap cs e fr=>exact key _ _ _ rfl
theorem Dj (zs zs2:lA) (hl2:zs2.length=zs.length) (hz:∀i (h:i<zs.length) (h2:i<zs2.length),∃ws,zs2[i]= .arr ⟨1,false⟩ ws/\(zs[i]=zs2[i]\/(zs[i]= .val (.slice none 0 0)/\ws=[]))) (hn:zs.length<=1048576):
 T2 pG 225 [.bo ⟨1,false⟩ [.arr ⟨1,false⟩ zs] 0 0] (gM zs2):=by
 refine ⟨Go.Proofs.enters_of func225 (by kernel_rfl) rfl,λw S cs hS hcs hrd=> ?_⟩;have h0:=hrd 0 (by simp)
 obtain ⟨p,rfl⟩:∃v,cs= #[v]:=⟨cs[0]'(by rw [hcs];simp),by
  refine Array.ext (by simp [hcs]) λi h1 h2=> ?_;have:i=0:=by simp at h2;omega
  subst this;rfl⟩
 have h0:Rd w S (.bo ⟨1,false⟩ [.arr ⟨1,false⟩ zs] 0 0) p:=h0;obtain ⟨b,off,cs1,e1,fr1,hSb,hb,hl,hv,rfl⟩:∃b off cs1 e1 fr1,S b/\w.heap[b]? =some (.cells cs1 e1 fr1)/\off<cs1.size/\Rd w S (.arr ⟨1,false⟩ zs) (cs1.toList.getD off uD)/\p= .pointer (some ⟨b,off,none⟩):=by
  cases h0 with
  |bo _ _ _ _ b off cs1 e1 fr1 hS' hb hl hf hv=>
   refine ⟨b,off,cs1,e1,fr1,hS',hb,?_,?_,by simp⟩
   . simp at hl;omega
   have:=hv 0 (by simp);simpa [elemV] using this
 have vN:w.cell? ⟨b,off,none⟩=some (cs1.toList.getD off uD):=by simp [World.cell?,hb,uq7,hl]
 have key:∀(ad:Option Addr) (cap:Nat) (b2 o2:Nat),cs1.toList.getD off uD= .slice ad zs.length cap->(zs.length=0\/S b2)->(zs.length=0\/ad=some ⟨b2,o2,none⟩)→
  (∀i (h:i<zs.length),∃u,w.cell? ⟨b2,o2+i,none⟩=some u/\Rd w S zs[i] u)->∃vs:Fin (gM zs2).length->Value × Value,(∀i,Rd w S (gM zs2)[i].1 (vs i).1/\Rd w S (gM zs2)[i].2 (vs i).2)∧
  SeqStopsK Fence.wide 0 pG 225 #[.pointer (some ⟨b,off,none⟩)] (λi=> #[(vs i).1,(vs i).2]) (λA B=>∀b,S b->B.heap[b]? =A.heap[b]?) (λl=>l=List.finRange (gM zs2).length) (λ_=>True) (gM zs2).length w:=by
  intro ad cap b2 o2 hsv XE had hcl;have:∀i,∃q:Option Addr × Nat × Nat,∀(h:i<zs.length) (h2:i<zs2.length),w.cell? ⟨b2,o2+i,none⟩=some (.slice q.1 q.2.1 q.2.2)/\Rd w S zs2[i] (.slice q.1 q.2.1 q.2.2):=by
   intro i;by_cases h:i<zs.length
   . obtain ⟨u,h1,h2⟩:=hcl i h;obtain ⟨ws,hw,hw2⟩:=hz i h (by omega);rcases hw2 with hw2|⟨hw2,hws⟩
     . rw [hw2,hw] at h2;cases h2 with
       |nil sh a=>exact ⟨(a,0,0),λ_ _=>⟨h1,by rw [hw];exact .nil _ _⟩⟩
       |arr sh xs b3 o3 c3 cs3 e3 f3 q1 q2 q3 q4 q5 q6=>exact ⟨(some ⟨b3,o3,none⟩,_,c3),λ_ _=>⟨h1,by rw [hw];exact .arr _ _ b3 o3 c3 cs3 e3 f3 q1 q2 q3 q4 q5 q6⟩⟩
     rw [hw2] at h2;cases h2 with
     |val _ _=>exact ⟨(none,0,0),λ_ _=>⟨h1,by rw [hw,hws];exact .nil _ _⟩⟩
   exact ⟨(none,0,0),λh'=>absurd h' h⟩
  obtain ⟨f,hf⟩:=Classical.axiomOfChoice this;have hlen:=p5 zs2;refine ⟨λx=>(.int .i64 (((gM zs2).length-1-x.1:Nat):Int),.slice (f ((gM zs2).length-1-x.1)).1 (f ((gM zs2).length-1-x.1)).2.1 (f ((gM zs2).length-1-x.1)).2.2),λi=> ?_,λl J Jx W hW hJ hJx hY h0=> ?_⟩
  . have hi:(gM zs2).length-1-i.1<zs2.length:=(by have:=i.2;omega);have e:zs2.length-1-i.1=(gM zs2).length-1-i.1:=(by omega);rw [Cd,e];refine ⟨.val _ rfl,?_⟩;have:=(hf _ (by omega) hi).2;simp only [uq7,uq8 hi];exact this
  have XF:∀q,S q->W.heap[q]? =w.heap[q]? :=λq hq=>hW.block q (hS q hq);refine Qf l b off (gM zs2).length cap ad b2 o2 f S J Jx W ⟨hSb,by rw [hlen,hl2];exact XE⟩ (by rw [hlen,hl2];exact hn) ?_ (by rw [hlen,hl2];exact had) (λi hi=> ?_) hY h0
  . rw [World.cell?_of_block (XF b hSb),vN,hsv,hlen,hl2]
  have hi':i<zs.length:=by rw [←hl2,←hlen];exact hi
  rw [World.cell?_of_block (XF b2 (XE.resolve_left (by omega)))];exact (hf i hi' (by omega)).1
 generalize hq:cs1.toList.getD off uD=q at hv key;cases hv with
 |nil sh a=>exact key a 0 0 0 rfl (.inl rfl) (.inl rfl) λi h=>absurd h (DE _)
 |arr sh xs b2 o2 cap cs2 e2 fr2 h1 h2 h3 h4 h5 h6=>
  refine key _ cap b2 o2 rfl (.inr h1) (.inr rfl) λi h=>⟨_,?_,h6 i h⟩;simp at h4;have:o2+i<cs2.size:=by omega
  simp [World.cell?,h2,elemV,uq7,this]
theorem Ge {σ:Type} {m:aL} {f:σ->lI->σ × Bool} {J:Nat->σ->Prop} (mono:∀a b s,a<=b->J a s->J b s) {n:Nat} {c:lI} (hc:∀(c':lI) (t:KS σ) (b:Nat),J b t.s->J (b+8^n) (bn m f n c' t).1.s) (t:KS σ) (b:Nat) (h:J b t.s):
 ∀D:Nat,J (b+D*8^n) (eO (aS m f n c) t D).1.s
 |0=>by rw [Nat.zero_mul,Nat.add_zero];exact h
 |D+1=>by
  have ih:=Ge mono hc t b h D (c:=c);have hle:b+D*8^n<=b+(D+1)*8^n:=Nat.add_le_add_left (Nat.mul_le_mul_right _ (Nat.le_succ D)) b;by_cases hb:(eO (aS m f n c) t D).2=true
  . rw [iX hb];generalize (eO (aS m f n c) t D).1=u at*;unfold aS;split
    . split
      . have:=hc (c++[(D:Int)]) ⟨u.af+1,u.zs.take c.length++[(D:Int)],u.s⟩ _ ih;rw [Nat.succ_mul,←Nat.add_assoc];exact this
      exact mono _ _ _ hle ih
    exact mono _ _ _ hle ih
  rw [eO,if_neg hb];exact mono _ _ _ hle ih
theorem zb {σ:Type} {m:aL} (hm:aW m=true) {f:σ->lI->σ × Bool} {J:Nat->σ->Prop} (mono:∀a b s,a<=b->J a s->J b s) (step:∀b s k,J b s->J (b+1) (f s k).1):
 ∀(n:Nat) (c:lI) (t:KS σ) (b:Nat),J b t.s->J (b+8^n) (bn m f n c t).1.s
 |0,c,t,b,h=>by
  simp only [bn];split
  . exact mono _ _ _ (by omega) h
  exact step _ _ _ h
 |n+1,c,t,b,h=>by
  have hd:m.ak.toNat<=8:=by have:=aI hm;omega
  have:=Ge mono (λc' t' b'=>zb hm mono step n c' t' b') t b h m.ak.toNat (c:=c);rw [dP];refine mono _ _ _ ?_ this;have h2:m.ak.toNat*8^n<=8*8^n:=Nat.mul_le_mul_right _ hd;rw [Nat.pow_succ,Nat.mul_comm (8^n) 8];omega
def bP (ls:List lL) (ab:lL) (st:lI) (k:lI):lI × Bool:=
 (if DP ab k=true then st else st.set (bB ls k ls.length).length (st.getD (bB ls k ls.length).length 0+1),true)
def qA (n b:Nat) (st:lI):Prop:=st.length=n/\∀x∈st,0<=x/\x<=(b:Int)
theorem nO (n:Nat):∀a b s,a<=b->qA n a s->qA n b s:=λa b s h hs=>⟨hs.1,λx hx=>by have:=hs.2 x hx;omega⟩
theorem zc (n:Nat) (ls:List lL) (ab:lL):∀b s k,qA n b s->qA n (b+1) (bP ls ab s k).1:=by
 intro b s k h;unfold bP;simp only;split
 . exact nO n b (b+1) s (by omega) h
 refine ⟨by rw [List.length_set];exact h.1,λx hx=> ?_⟩;rcases List.mem_or_eq_of_mem_set hx with hx|rfl
 . have:=h.2 x hx;omega
 have:0<=s.getD (bB ls k ls.length).length 0/\s.getD (bB ls k ls.length).length 0<=(b:Int):=by
  rw [uq7];cases he:s[(bB ls k ls.length).length]? with
  |none=>first|(simp;done)|(simp;omega)
  |some y=>exact h.2 y (List.mem_of_getElem? he)
 omega
theorem ug (ls:List lL) (k:lI):∀n,n<=ls.length->Gd ls k n=decide (0<(bB ls k n).length)
 |0,_=>rfl
 |n+1,h=>by
  have eg:ls.getD n []=ls[n]:=by rw [uq7,uq8 (by omega)];rfl
  rw [Cc (by omega),ug ls k n (by omega),bB,eg];cases dV ls[n] k with
  |true=>rw [if_pos rfl,Bool.or_true,decide_eq_true (by simp)]
  |false=>rw [if_neg (by simp),Bool.or_false]
theorem Gf:∀(r:lI) (j:Nat),j<r.length->(r.set j (r.getD j 0+1)).sum=r.sum+1
 | [],j,h=>absurd h (DE _)
 |a::r,0,_=>by simp;omega
 |a::r,j+1,h=>by have:=Gf r j (by simpa using h);simp only [List.set_cons_succ,List.getD_cons_succ,List.sum_cons,this];omega
theorem Dl (st:lI) (i:Nat) (h:i<st.length):((st.set i (st.getD i 0+1)).drop 1).sum=(st.drop 1).sum+if 0<i then 1 else 0:=by
 cases st with
 |nil=>exact absurd h (DE _)
 |cons a r=>
  cases i with
  |zero=>simp
  |succ j=>
   rw [if_pos (by omega)];simp only [List.set_cons_succ,List.getD_cons_succ,uq5,uq6];exact Gf r j (by simpa using h)
theorem rz (ls:List lL) (ab:lL):∀(ks:lL) (st:lI),st.length=ls.length+1→
 (bA (bP ls ab) st ks).2=true/\(bA (bP ls ab) st ks).1.length=ls.length+1/\((bA (bP ls ab) st ks).1.drop 1).sum=(st.drop 1).sum+((ks.filter (J6 ls ab)).length:Int)
 | [],st,h=>⟨rfl,h,by simp [bA]⟩
 |k::ks,st,h=>by
  have ht:(bP ls ab st k).2=true:=rfl;have hl:(bP ls ab st k).1.length=ls.length+1:=by
   unfold bP;simp only;split
   . exact h
   rw [List.length_set];exact h
  obtain ⟨i1,i2,i3⟩:=rz ls ab ks (bP ls ab st k).1 hl;rw [bA,if_pos ht];refine ⟨i1,i2,?_⟩;rw [i3,List.filter_cons];have hd:=gw ls k ls.length;have hs:((bP ls ab st k).1.drop 1).sum=(st.drop 1).sum+if J6 ls ab k=true then 1 else 0:=by
   unfold bP J6;simp only;rw [ug ls k ls.length (ko _)];cases hin:DP ab k with
   |true=>simp
   |false=>
    rw [if_neg (by simp),Dl st _ (by omega)];by_cases h0:0<(bB ls k ls.length).length
    . rw [if_pos h0,decide_eq_true h0,if_pos (by rfl)]
    rw [if_neg h0,decide_eq_false h0,if_neg (by simp)]
  rw [hs];split
  . simp only [dR];push_cast;omega
  omega
structure Gg (m:aL) (ab:lL) (ls:List lL) (n1:Nat):Prop where
 cl:ab.length<=1048576
 cx:∀x∈ab,x.length<=1048576
 ll:ls.length<=1000
 lk:∀l∈ls,(l.length:Int)=m.ae/\∀x∈l,x.length<=1048576
 n1:ls.length<n1
theorem W9 (m:aL) (ab:lL) (ls:List lL) (n1:Nat) (hV:Gg m ab ls n1) (c:lI) (af:Nat) (ys:lA) (st:lI) (hc:(c.length:Int)=m.ae) (hc6:c.length<=6) (hy:ys.take c.length=c.map eI) (hs:∃b:Nat,qA n1 b st/\b+1<=1000000):
 fL pG 223 [(1700000010,.row af ⟨1,false⟩ true ys),(1600000004,.box 0 [aQ ab]),(1600000005,.box 0 [.cn 265 [.ptr 1500000005 0 0 0]]),(1600000006,.box 0 [p9 ls]),(1500000005,.box 0 [.ref 1500000012 0 0 n1]),(1500000012,.row 0 ⟨1,false⟩ true (bm eI st))] [.ref 1700000010 af 0 c.length,.ptr 1600000004 0 0 0,.ptr 1600000005 0 0 0,.ptr 1600000006 0 0 0]
  (λr m'=>r=eB (bP ls ab st c).2/\m'=[(1700000010,.row af ⟨1,false⟩ true ys),(1600000004,.box 0 [aQ ab]),(1600000005,.box 0 [.cn 265 [.ptr 1500000005 0 0 0]]),(1600000006,.box 0 [p9 ls]),(1500000005,.box 0 [.ref 1500000012 0 0 n1]),(1500000012,.row 0 ⟨1,false⟩ true (bm eI ((bP ls ab st c).1)))]):=by
 refine fL.cW 17 [.tmp 5] func223 (hv:= ?_);have DH:=y_ ab c hV.cl hV.cx;have hdo:=me ls c hV.ll (λl hl=>⟨by have:=(hV.lk l hl).1;omega,by have:=(hV.lk l hl).1;omega,(hV.lk l hl).2⟩);have hdl:=gw ls c ls.length;have hn1:=hV.n1;obtain ⟨b,⟨hst,hsb⟩,hb⟩:=hs;have hyl:c.length<=ys.length:=by have:=congrArg List.length hy;simp at this;omega
 simp -dsimp -implicitDefEqProofs only [go_sem];refine aj.lx 9 mixed rfl ?_;simp -dsimp -implicitDefEqProofs only [ft,dc,uq5,uq6];rcases hin:DP ab c with _|_
 . rw [hin] at DH;have hr:bP ls ab st c=(st.set (bB ls c ls.length).length (st.getD (bB ls c ls.length).length 0+1),true):=(by rw [bP,hin,if_neg (by simp)]);rw [hr];generalize bB ls c ls.length=D at*;have hDl:D.length<st.length:=(by omega);have gD:st[D.length]? =some (st.getD D.length 0):=(by rw [uq7,uq8 hDl];rfl);have hDb:=hsb (st.getD D.length 0) (List.mem_of_getElem? gD);generalize st.getD D.length 0=z at*;simp -dsimp -implicitDefEqProofs only [go_sem,hy,uq6];refine ⟨hyl,?_⟩;(refine an (DH) ?_;try simp -dsimp -implicitDefEqProofs only [go_sem, *]);(refine an (hdo) ?_;try simp -dsimp -implicitDefEqProofs only [go_sem, *]);refine ⟨by exact rfl,?_⟩;refine bN 430000 13 [.tmp 5] func265 rfl rfl rfl rfl rfl (by exact oT rfl) ?_;simp -dsimp -implicitDefEqProofs only [go_sem,gD];refine ⟨⟨by omega,by omega⟩,⟨by omega,by omega⟩,⟨by omega,by omega⟩,_,rfl,aM ?_ ?_⟩
   . simp -dsimp -implicitDefEqProofs only [go_sem,List.map_set]
   simp -dsimp -implicitDefEqProofs only [go_sem];simp [ao,aq,ck]
 rw [hin] at DH;have hr:bP ls ab st c=(st,true):=by rw [bP,hin,if_pos rfl]
 rw [hr];simp -dsimp -implicitDefEqProofs only [go_sem,hy,uq6];refine ⟨hyl,?_⟩;(refine an (DH) ?_;try simp -dsimp -implicitDefEqProofs only [go_sem, *]);refine ⟨by exact rfl,_,rfl,aM ?_ ?_⟩
 . simp -dsimp -implicitDefEqProofs only [go_sem]
 simp -dsimp -implicitDefEqProofs only [go_sem];simp [ao,aq,ck]
theorem W_ (m:aL) (hm:aW m=true) (ab:lL) (ls:List lL) (n1:Nat) (hV:Gg m ab ls n1):∀(n:Nat) (c:lI) (t:KS lI),(c.length:Int)+n=m.ae->(∀x∈c,0<=x/\x<=7)->DN c t->(∃b:Nat,qA n1 b t.s/\b+8^n<=1000000)→
 fL pG 262 [(1700000008,.box 0 [.ref 1700000010 t.af 0 c.length]),(1700000010,.row t.af ⟨1,false⟩ true (t.zs.map eI)),(1700000004,.box 0 [eI m.ae,eI m.ak,eI m.step,eI m.same,eI m.least]),(1700000007,.box 0 [.cn 223 [.ptr 1600000004 0 0 0,.ptr 1600000005 0 0 0,.ptr 1600000006 0 0 0]]),(1700000005,.box 0 [.val (.slice none 0 0)]),(1700000006,.box 0 [.val .nilFunc]),(1700000009,.box 0 [.cn 262 [.ptr 1700000008 0 0 0,.ptr 1700000004 0 0 0,.ptr 1700000007 0 0 0,.ptr 1700000005 0 0 0,.ptr 1700000006 0 0 0,.ptr 1700000009 0 0 0]]),(1600000004,.box 0 [aQ ab]),(1600000005,.box 0 [.cn 265 [.ptr 1500000005 0 0 0]]),(1600000006,.box 0 [p9 ls]),(1500000005,.box 0 [.ref 1500000012 0 0 n1]),(1500000012,.row 0 ⟨1,false⟩ true (bm eI t.s))] [eB false,.ptr 1700000008 0 0 0,.ptr 1700000004 0 0 0,.ptr 1700000007 0 0 0,.ptr 1700000005 0 0 0,.ptr 1700000006 0 0 0,.ptr 1700000009 0 0 0]
  (λr m'=>r=eB (bn m (bP ls ab) n c t).2/\m'=[(1700000008,.box 0 [.ref 1700000010 (bn m (bP ls ab) n c t).1.af 0 c.length]),(1700000010,.row (bn m (bP ls ab) n c t).1.af ⟨1,false⟩ true ((bn m (bP ls ab) n c t).1.zs.map eI)),(1700000004,.box 0 [eI m.ae,eI m.ak,eI m.step,eI m.same,eI m.least]),(1700000007,.box 0 [.cn 223 [.ptr 1600000004 0 0 0,.ptr 1600000005 0 0 0,.ptr 1600000006 0 0 0]]),(1700000005,.box 0 [.val (.slice none 0 0)]),(1700000006,.box 0 [.val .nilFunc]),(1700000009,.box 0 [.cn 262 [.ptr 1700000008 0 0 0,.ptr 1700000004 0 0 0,.ptr 1700000007 0 0 0,.ptr 1700000005 0 0 0,.ptr 1700000006 0 0 0,.ptr 1700000009 0 0 0]]),(1600000004,.box 0 [aQ ab]),(1600000005,.box 0 [.cn 265 [.ptr 1500000005 0 0 0]]),(1600000006,.box 0 [p9 ls]),(1500000005,.box 0 [.ref 1500000012 0 0 n1]),(1500000012,.row 0 ⟨1,false⟩ true (bm eI ((bn m (bP ls ab) n c t).1.s)))]):=by
 intro n;have ⟨⟨zu,zv⟩,hd1,hd2⟩:=aI hm;induction n with
 |zero=>
  intro c t hl hc hz hs;have hk:((c.length:Int)==m.ae)=true:=beq_iff_eq.2 (by omega);have ht:dD c.length (bm eI t.zs)=bm eI c:=by rw [←List.map_take,hz.1]
  have hzl:c.length<=(bm eI t.zs).length:=by simpa using hz.2
  refine fL.cW 91 [.tmp 8] func262 (hv:= ?_);simp -dsimp -implicitDefEqProofs only [go_sem,hk];refine aj.lx 8 mixed rfl ?_;simp -dsimp -implicitDefEqProofs only [ft,dc,uq5,uq6];have s7:=iF c (by omega);rcases hq:decide ((bf c c.length:Int)<m.least) with _|_
  . have hq':=of_decide_eq_false hq;have eZ:bn m (bP ls ab) 0 c t=(⟨t.af,t.zs,((bP ls ab) t.s c).1⟩,((bP ls ab) t.s c).2):=(by rw [bn,if_neg hq']);rw [eZ];simp -dsimp -implicitDefEqProofs only [go_sem,ht,uq6];refine ⟨hz.2,?_⟩;(refine an (s7) ?_;try simp -dsimp -implicitDefEqProofs only [go_sem, *]);refine ⟨by exact rfl,hz.2,?_⟩;refine cX (W9 m ab ls n1 hV c t.af (t.zs.map eI) t.s (by omega) (by omega) ht (by simpa using hs)) ⟨⟨?_,?_⟩,?_,?_⟩ ?_
    . simp -dsimp -implicitDefEqProofs only [go_sem]
    . simp -dsimp -implicitDefEqProofs only [go_sem];simp [ao,aq,ck]
    . simp -dsimp -implicitDefEqProofs only [go_sem]
    . simp -dsimp -implicitDefEqProofs only [go_sem];simp
    rintro r m' ⟨hr,hm'⟩;rw [hr,hm'];simp -dsimp -implicitDefEqProofs only [go_sem];refine ⟨_,rfl,aM ?_ ?_⟩
    . simp -dsimp -implicitDefEqProofs only [go_sem]
    simp -dsimp -implicitDefEqProofs only [go_sem];simp [ao,aq,ck]
  have hq':=oT hq;have eZ:bn m (bP ls ab) 0 c t=(t,true):=by rw [bn,if_pos hq']
  rw [eZ];simp -dsimp -implicitDefEqProofs only [go_sem,ht,uq6];refine ⟨hz.2,?_⟩;(refine an (s7) ?_;try simp -dsimp -implicitDefEqProofs only [go_sem, *]);refine ⟨by exact rfl,_,rfl,aM ?_ ?_⟩
  . simp -dsimp -implicitDefEqProofs only [go_sem]
  simp -dsimp -implicitDefEqProofs only [go_sem];simp [ao,aq,ck]
 |succ n ih=>
  intro c t hl hc hz hs;have hk:((c.length:Int)==m.ae)=false:=beq_eq_false_iff_ne.2 (by omega);refine fL.cW 91 [.tmp 8] func262 (hv:= ?_);simp -dsimp -implicitDefEqProofs only [go_sem,hk];refine aj.up [0,1,2,5,6,9,10] [47,61,69,70,72,84] [1700000008,1700000010,1500000012] m.ak.toNat (λi=>(eO (aS m (bP ls ab) n c) t i).2=true) (λi=>[(11,eI i)]) (λi=>[(1700000008,.box 0 [.ref 1700000010 (eO (aS m (bP ls ab) n c) t i).1.af 0 c.length]),(1700000010,.row (eO (aS m (bP ls ab) n c) t i).1.af ⟨1,false⟩ true ((eO (aS m (bP ls ab) n c) t i).1.zs.map eI)),(1500000012,.row 0 ⟨1,false⟩ true (bm eI ((eO (aS m (bP ls ab) n c) t i).1.s)))]) rfl ?_ rfl (λi hi hI=> ?_) (λhI=> ?_)
  . simp -dsimp -implicitDefEqProofs only [go_sem];simp [eO]
  . have hu:DN c (eO (aS m (bP ls ab) n c) t i).1:=pU hz i;have kp:∃b:Nat,qA n1 b (eO (aS m (bP ls ab) n c) t i).1.s/\b+8^n<=1000000:=by
     obtain ⟨b0,hJ0,hb0⟩:=hs;refine ⟨b0+i*8^n,Ge (nO n1) (λc' t' b'=>zb hm (nO n1) (zc n1 ls ab) n c' t' b') t b0 hJ0 i,?_⟩;have h8:(i+1)*8^n<=8*8^n:=Nat.mul_le_mul_right _ (by omega);have h9:(i+1)*8^n=i*8^n+8^n:=Nat.succ_mul i (8^n);have h10:8^(n+1)=8*8^n:=(by rw [Nat.pow_succ,Nat.mul_comm]);omega
    have hlt:decide ((i:Int)<m.ak)=true:=dT (by omega);have hS:=iX hI;have cy:(aS m (bP ls ab) n c i (eO (aS m (bP ls ab) n c) t i).1).2=false->bn m (bP ls ab) (n+1) c t=aS m (bP ls ab) n c i (eO (aS m (bP ls ab) n c) t i).1:=λh=>by rw [←hS] at h ⊢;rw [dP,o9 h m.ak.toNat (by omega)]
    rw [hS];clear hS hI;generalize (eO (aS m (bP ls ab) n c) t i).1=u at*;obtain ⟨hu1,hu2⟩:=hu;have htk:dD c.length (bm eI u.zs)=bm eI c:=(by rw [←List.map_take,hu1]);have hcl:c.length<=6:=(by omega)
    have hih:=ih (c++[(i:Int)]) ⟨u.af+1,c++[(i:Int)],u.s⟩ (by simp;omega) (λx hx=>by
     rcases List.mem_append.1 hx with h|h
     . exact hc x h
     simp at h;omega) ⟨e7,ko _⟩ kp
    simp only [bj,dR,bI,Nat.zero_add] at hih;have cG:=kz (c++[(i:Int)]) (by simp) (by simp;omega);simp only [bj,dR,bI,Nat.zero_add,Nat.add_sub_cancel] at cG;have ou:bm eI c++[eI (i:Int)]=bm eI (c++[(i:Int)]):=(by simp);have l7:bH m c i=(c.isEmpty|| !decide (fj ((i:Int)-c.getD (c.length-1) 0)>m.step)):=by
     unfold bH;congr 1;by_cases h:fj ((i:Int)-c.getD (c.length-1) 0)<=m.step
     . rw [decide_eq_true h,decide_eq_false (by omega)];rfl
     rw [decide_eq_false h,decide_eq_true (by omega)];rfl
    have dK:fZ m c i= !decide ((aZ (c++[(i:Int)]) c.length:Int)>m.same):=by
     unfold fZ;by_cases h:(aZ (c++[(i:Int)]) c.length:Int)<=m.same
     . rw [decide_eq_true h,decide_eq_false (by omega)];rfl
     rw [decide_eq_false h,decide_eq_true (by omega)];rfl
    simp -dsimp -implicitDefEqProofs only [go_sem,hlt];refine aj.draw mixed rfl ?_;have hfn:rM pG 216 .neq=some false:=rfl;rcases hk0:decide ((c.length:Int)>0) with _|_
    . have hce:c=[]:=by
       have:=of_decide_eq_false hk0;exact List.eq_nil_of_length_eq_zero (by omega)
      have hsT:bH m c i=true:=(by rw [hce];rfl);clear hce;simp -dsimp -implicitDefEqProofs only [go_sem,hfn,hk0];refine ⟨by exact rfl,hu2,by omega,?_⟩;refine aj.lx 13 mixed rfl ?_;simp -dsimp -implicitDefEqProofs only [ft,dc,uq5,uq6];have htl:dD (c.length+1) (bm eI (c++[(i:Int)]))=bm eI (c++[(i:Int)]):=cm (by simp);rcases hq2:decide ((aZ (c++[(i:Int)]) c.length:Int)>m.same) with _|_
      . have hcB:aS m (bP ls ab) n c i u=bn m (bP ls ab) n (c++[(i:Int)]) ⟨u.af+1,c++[(i:Int)],u.s⟩:=(by rw [aS,if_pos hsT,if_pos (by rw [dK,hq2];rfl),hu1]);rw [hcB] at cy ⊢;clear hcB;generalize bn m (bP ls ab) n (c++[(i:Int)]) ⟨u.af+1,c++[(i:Int)],u.s⟩=w at*;obtain ⟨w,b⟩:=w;simp -dsimp -implicitDefEqProofs only [go_sem,htk,ou,htl];(refine an (cG) ?_;try simp -dsimp -implicitDefEqProofs only [go_sem, *]);refine ⟨by exact rfl,?_⟩;refine cX hih ⟨⟨?_,?_⟩,?_,?_⟩ ?_
        . simp -dsimp -implicitDefEqProofs only [go_sem]
        . simp -dsimp -implicitDefEqProofs only [go_sem];simp [ao,aq,ck]
        . simp -dsimp -implicitDefEqProofs only [go_sem]
        . simp -dsimp -implicitDefEqProofs only [go_sem];simp
        rintro r m' ⟨hr,hm'⟩;rw [hr,hm'];clear hr hm';cases b with
        |false=>
         rw [cy rfl];simp -dsimp -implicitDefEqProofs only [go_sem];refine ⟨by omega,_,rfl,aM ?_ ?_⟩
         . simp -dsimp -implicitDefEqProofs only [go_sem]
         simp -dsimp -implicitDefEqProofs only [go_sem];simp [ao,aq,ck]
        |true=>
         simp -dsimp -implicitDefEqProofs only [go_sem];exact ⟨by omega,⟨by omega,by omega⟩,by simp⟩
      have hcB:aS m (bP ls ab) n c i u=(⟨u.af+1,c++[(i:Int)],u.s⟩,true):=(by rw [aS,if_pos hsT,if_neg (by rw [dK,hq2];exact λh=>by cases h),hu1]);rw [hcB];clear hcB cy;simp -dsimp -implicitDefEqProofs only [go_sem,htk,ou,htl];(refine an (cG) ?_;try simp -dsimp -implicitDefEqProofs only [go_sem, *]);exact ⟨by exact rfl,by omega,⟨by omega,by omega⟩,by simp⟩
    have hkp:=oT hk0;have hla:c.getD (c.length-1) 0=c[c.length-1]:=(by simp [uq7,show c.length-1<c.length by omega]);have ka:(bm eI u.zs)[c.length-1]? =some (eI (c.getD (c.length-1) 0)):=by have h1:(dD c.length (bm eI u.zs))[c.length-1]? =(bm eI u.zs)[c.length-1]? :=(by rw [List.getElem?_take];simp;omega);rw [←h1,htk,hla];simp [show c.length-1<c.length by omega]
    have hlb:=hc _ (uq9 (show c.length-1<c.length by omega));rw [←hla] at hlb;generalize c.getD (c.length-1) 0=z at*;clear hla;have e1:((c.length:Int)-1).toNat=c.length-1:=(by omega);have qc:=jq ((i:Int)-z) (by omega);rcases hq:decide (fj ((i:Int)-z)>m.step) with _|_
    . have hsT:bH m c i=true:=(by rw [l7,hq];simp);simp -dsimp -implicitDefEqProofs only [go_sem,hfn,hk0,e1,ka];refine ⟨⟨by omega,by omega⟩,⟨by omega,by omega⟩,⟨by omega,by omega⟩,?_⟩;(refine an (qc) ?_;try simp -dsimp -implicitDefEqProofs only [go_sem, *]);refine ⟨by exact rfl,by omega,?_⟩;refine aj.lx 13 mixed rfl ?_;simp -dsimp -implicitDefEqProofs only [ft,dc,uq5,uq6];have htl:dD (c.length+1) (bm eI (c++[(i:Int)]))=bm eI (c++[(i:Int)]):=cm (by simp);rcases hq2:decide ((aZ (c++[(i:Int)]) c.length:Int)>m.same) with _|_
      . have hcB:aS m (bP ls ab) n c i u=bn m (bP ls ab) n (c++[(i:Int)]) ⟨u.af+1,c++[(i:Int)],u.s⟩:=(by rw [aS,if_pos hsT,if_pos (by rw [dK,hq2];rfl),hu1]);rw [hcB] at cy ⊢;clear hcB;generalize bn m (bP ls ab) n (c++[(i:Int)]) ⟨u.af+1,c++[(i:Int)],u.s⟩=w at*;obtain ⟨w,b⟩:=w;simp -dsimp -implicitDefEqProofs only [go_sem,htl];(refine an (cG) ?_;try simp -dsimp -implicitDefEqProofs only [go_sem, *]);refine ⟨by exact rfl,?_⟩;refine cX hih ⟨⟨?_,?_⟩,?_,?_⟩ ?_
        . simp -dsimp -implicitDefEqProofs only [go_sem]
        . simp -dsimp -implicitDefEqProofs only [go_sem];simp [ao,aq,ck]
        . simp -dsimp -implicitDefEqProofs only [go_sem]
        . simp -dsimp -implicitDefEqProofs only [go_sem];simp
        rintro r m' ⟨hr,hm'⟩;rw [hr,hm'];clear hr hm';cases b with
        |false=>
         rw [cy rfl];simp -dsimp -implicitDefEqProofs only [go_sem];refine ⟨by omega,_,rfl,aM ?_ ?_⟩
         . simp -dsimp -implicitDefEqProofs only [go_sem]
         simp -dsimp -implicitDefEqProofs only [go_sem];simp [ao,aq,ck]
        |true=>
         simp -dsimp -implicitDefEqProofs only [go_sem];exact ⟨by omega,⟨by omega,by omega⟩,by simp⟩
      have hcB:aS m (bP ls ab) n c i u=(⟨u.af+1,c++[(i:Int)],u.s⟩,true):=(by rw [aS,if_pos hsT,if_neg (by rw [dK,hq2];exact λh=>by cases h),hu1]);rw [hcB];clear hcB cy;simp -dsimp -implicitDefEqProofs only [go_sem,htl];(refine an (cG) ?_;try simp -dsimp -implicitDefEqProofs only [go_sem, *]);exact ⟨by exact rfl,by omega,⟨by omega,by omega⟩,by simp⟩
    have hsF:bH m c i=false:=by
     rw [l7,hq];cases c with
     |nil=>simp at hkp
     |cons=>rfl
    have hcB:aS m (bP ls ab) n c i u=(u,true):=(by rw [aS,if_neg (by rw [hsF];exact λh=>by cases h)]);rw [hcB];clear hcB cy;simp -dsimp -implicitDefEqProofs only [go_sem,hfn,hk0,e1,ka];refine ⟨⟨by omega,by omega⟩,⟨by omega,by omega⟩,⟨by omega,by omega⟩,?_⟩;(refine an (qc) ?_;try simp -dsimp -implicitDefEqProofs only [go_sem, *]);exact ⟨by exact rfl,⟨by omega,by omega⟩,by simp⟩
  simp -dsimp -implicitDefEqProofs only [pz,Nat.reduceBEq,Nat.reduceDiv,Nat.reduceAdd,↓reduceIte,Nat.reduceEqDiff];have hlt:decide (((m.ak.toNat:Nat):Int)<m.ak)=false:=dF (by omega);simp -dsimp -implicitDefEqProofs only [go_sem,hlt];rw [dP];refine ⟨_,⟨by rw [hI],rfl⟩,aM ?_ ?_⟩
  . simp -dsimp -implicitDefEqProofs only [go_sem]
  simp -dsimp -implicitDefEqProofs only [go_sem];simp [ao,aq,ck]
def G1:Option lI->AV
 |none=>.val (.slice none 0 0)
 |some k=>aQ [k]
def dB (ls:List lL) (ab:lL) (st:List (Option lI)) (k:lI):List (Option lI) × Bool:=
 (if DP ab k=true then st else if 0<(bB ls k ls.length).length/\st.getD (bB ls k ls.length).length none=none then st.set (bB ls k ls.length).length (some k) else st,true)
def Dm (n:Nat) (_:Nat) (st:List (Option lI)):Prop:=st.length=n
theorem Ce (n:Nat):∀a b s,a<=b->Dm n a s->Dm n b s:=λ_ _ _ _ h=>h
theorem Cf (n:Nat) (ls:List lL) (ab:lL):∀b s k,Dm n b s->Dm n (b+1) (dB ls ab s k).1:=by
 intro b s k h;unfold dB Dm at*;simp only;split
 . exact h
 split
 . rw [List.length_set];exact h
 exact h
theorem Xa (m:aL) (ab:lL) (ls:List lL) (n1:Nat) (hV:Gg m ab ls n1) (c:lI) (af:Nat) (ys:lA) (st:List (Option lI)) (hc:(c.length:Int)=m.ae) (hc6:c.length<=6) (hy:ys.take c.length=c.map eI) (hs:∃b:Nat,Dm n1 b st/\b+1<=1000000):
 fL pG 223 [(1700000010,.row af ⟨1,false⟩ true ys),(1600000004,.box 0 [aQ ab]),(1600000005,.box 0 [.cn 172 [.ptr 1500000009 0 0 0,.ptr 1500000005 0 0 0]]),(1600000006,.box 0 [p9 ls]),(1500000009,.box 0 [.ref 1500000028 0 0 n1]),(1500000005,.box 0 [eI 1]),(1500000028,.row 0 ⟨1,false⟩ false (bm G1 st))] [.ref 1700000010 af 0 c.length,.ptr 1600000004 0 0 0,.ptr 1600000005 0 0 0,.ptr 1600000006 0 0 0]
  (λr m'=>r=eB (dB ls ab st c).2/\m'=[(1700000010,.row af ⟨1,false⟩ true ys),(1600000004,.box 0 [aQ ab]),(1600000005,.box 0 [.cn 172 [.ptr 1500000009 0 0 0,.ptr 1500000005 0 0 0]]),(1600000006,.box 0 [p9 ls]),(1500000009,.box 0 [.ref 1500000028 0 0 n1]),(1500000005,.box 0 [eI 1]),(1500000028,.row 0 ⟨1,false⟩ false (bm G1 ((dB ls ab st c).1)))]):=by
 refine fL.cW 17 [.tmp 5] func223 (hv:= ?_);have DH:=y_ ab c hV.cl hV.cx;have hdo:=me ls c hV.ll (λl hl=>⟨by have:=(hV.lk l hl).1;omega,by have:=(hV.lk l hl).1;omega,(hV.lk l hl).2⟩);have hdl:=gw ls c ls.length;have hn1:=hV.n1;obtain ⟨b,hst,hb⟩:=hs;have hst:st.length=n1:=hst;have hyl:c.length<=ys.length:=by have:=congrArg List.length hy;simp at this;omega
 simp -dsimp -implicitDefEqProofs only [go_sem];refine aj.lx 9 mixed rfl ?_;simp -dsimp -implicitDefEqProofs only [ft,dc,uq5,uq6];rcases hin:DP ab c with _|_
 . rw [hin] at DH;have hr:dB ls ab st c=(if 0<(bB ls c ls.length).length/\st.getD (bB ls c ls.length).length none=none then st.set (bB ls c ls.length).length (some c) else st,true):=(by rw [dB,hin,if_neg (by simp)]);rw [hr];generalize bB ls c ls.length=D at*;have hDl:D.length<st.length:=(by omega);have gD:st[D.length]? =some (st.getD D.length none):=(by rw [uq7,uq8 hDl];rfl);generalize st.getD D.length none=z at*;simp -dsimp -implicitDefEqProofs only [go_sem,hy,uq6];refine ⟨hyl,?_⟩;(refine an (DH) ?_;try simp -dsimp -implicitDefEqProofs only [go_sem, *]);(refine an (hdo) ?_;try simp -dsimp -implicitDefEqProofs only [go_sem, *]);refine ⟨by exact rfl,?_⟩;refine bN 430000 32 [.tmp 6] func172 rfl rfl rfl rfl rfl (by exact oT rfl) ?_;rcases D with _|⟨d0,D⟩
   . have e0:decide ((0:Int)>0)=false:=rfl;simp -dsimp -implicitDefEqProofs only [go_sem];refine aj.draw mixed rfl ?_;simp -dsimp -implicitDefEqProofs only [go_sem,e0];refine ⟨by exact rfl,_,rfl,aM ?_ ?_⟩
     . simp -dsimp -implicitDefEqProofs only [go_sem];simp
     simp -dsimp -implicitDefEqProofs only [go_sem];simp [ao,aq,ck]
   rw [dR] at gD hDl hdl;have e1:decide (((D.length+1:Nat):Int)>0)=true:=dT (by omega);rcases z with _|k0
   . have e2:decide ((0:Int)<1)=true:=rfl;simp -dsimp -implicitDefEqProofs only [go_sem];refine aj.draw mixed rfl ?_;simp -dsimp -implicitDefEqProofs only [go_sem,e1,gD,G1,e2];refine ⟨⟨by omega,by omega⟩,by exact rfl,?_⟩;refine aj.lx 11 mixed rfl ?_;simp -dsimp -implicitDefEqProofs only [ft,dc,uq5,uq6];have hcl:=yA c (by omega);simp -dsimp -implicitDefEqProofs only [go_sem,gD,G1,hy,uq6];refine ⟨⟨by omega,by omega⟩,hyl,?_⟩;(refine an (hcl) ?_;try simp -dsimp -implicitDefEqProofs only [go_sem, *]);have ez:(0<D.length+1/\(none:Option lI)=none):=⟨by omega,rfl⟩;refine .inr ⟨⟨by omega,by omega⟩,by exact rfl,.inr ⟨by omega,_,rfl,aM ?_ ?_⟩⟩
     . simp -dsimp -implicitDefEqProofs only [go_sem,ez,List.map_set,G1];rfl
     simp -dsimp -implicitDefEqProofs only [go_sem];simp [ao,aq,ck]
   have e2:decide (((1:Nat):Int)<1)=false:=rfl;simp -dsimp -implicitDefEqProofs only [go_sem];refine aj.draw mixed rfl ?_;simp -dsimp -implicitDefEqProofs only [go_sem,e1,gD,G1,e2];refine ⟨⟨by omega,by omega⟩,by exact rfl,?_⟩;have ez:¬(0<D.length+1/\(some k0:Option lI)=none):=λh=>by cases h.2
   refine ⟨_,rfl,aM ?_ ?_⟩
   . simp -dsimp -implicitDefEqProofs only [go_sem,ez]
   simp -dsimp -implicitDefEqProofs only [go_sem];simp [ao,aq,ck]
 rw [hin] at DH;have hr:dB ls ab st c=(st,true):=by rw [dB,hin,if_pos rfl]
 rw [hr];simp -dsimp -implicitDefEqProofs only [go_sem,hy,uq6];refine ⟨hyl,?_⟩;(refine an (DH) ?_;try simp -dsimp -implicitDefEqProofs only [go_sem, *]);refine ⟨by exact rfl,_,rfl,aM ?_ ?_⟩
 . simp -dsimp -implicitDefEqProofs only [go_sem]
 simp -dsimp -implicitDefEqProofs only [go_sem];simp [ao,aq,ck]
theorem Xb (m:aL) (hm:aW m=true) (ab:lL) (ls:List lL) (n1:Nat) (hV:Gg m ab ls n1):∀(n:Nat) (c:lI) (t:KS (List (Option lI))),(c.length:Int)+n=m.ae->(∀x∈c,0<=x/\x<=7)->DN c t->(∃b:Nat,Dm n1 b t.s/\b+8^n<=1000000)→
 fL pG 262 [(1700000008,.box 0 [.ref 1700000010 t.af 0 c.length]),(1700000010,.row t.af ⟨1,false⟩ true (t.zs.map eI)),(1700000004,.box 0 [eI m.ae,eI m.ak,eI m.step,eI m.same,eI m.least]),(1700000007,.box 0 [.cn 223 [.ptr 1600000004 0 0 0,.ptr 1600000005 0 0 0,.ptr 1600000006 0 0 0]]),(1700000005,.box 0 [.val (.slice none 0 0)]),(1700000006,.box 0 [.val .nilFunc]),(1700000009,.box 0 [.cn 262 [.ptr 1700000008 0 0 0,.ptr 1700000004 0 0 0,.ptr 1700000007 0 0 0,.ptr 1700000005 0 0 0,.ptr 1700000006 0 0 0,.ptr 1700000009 0 0 0]]),(1600000004,.box 0 [aQ ab]),(1600000005,.box 0 [.cn 172 [.ptr 1500000009 0 0 0,.ptr 1500000005 0 0 0]]),(1600000006,.box 0 [p9 ls]),(1500000009,.box 0 [.ref 1500000028 0 0 n1]),(1500000005,.box 0 [eI 1]),(1500000028,.row 0 ⟨1,false⟩ false (bm G1 t.s))] [eB false,.ptr 1700000008 0 0 0,.ptr 1700000004 0 0 0,.ptr 1700000007 0 0 0,.ptr 1700000005 0 0 0,.ptr 1700000006 0 0 0,.ptr 1700000009 0 0 0]
  (λr m'=>r=eB (bn m (dB ls ab) n c t).2/\m'=[(1700000008,.box 0 [.ref 1700000010 (bn m (dB ls ab) n c t).1.af 0 c.length]),(1700000010,.row (bn m (dB ls ab) n c t).1.af ⟨1,false⟩ true ((bn m (dB ls ab) n c t).1.zs.map eI)),(1700000004,.box 0 [eI m.ae,eI m.ak,eI m.step,eI m.same,eI m.least]),(1700000007,.box 0 [.cn 223 [.ptr 1600000004 0 0 0,.ptr 1600000005 0 0 0,.ptr 1600000006 0 0 0]]),(1700000005,.box 0 [.val (.slice none 0 0)]),(1700000006,.box 0 [.val .nilFunc]),(1700000009,.box 0 [.cn 262 [.ptr 1700000008 0 0 0,.ptr 1700000004 0 0 0,.ptr 1700000007 0 0 0,.ptr 1700000005 0 0 0,.ptr 1700000006 0 0 0,.ptr 1700000009 0 0 0]]),(1600000004,.box 0 [aQ ab]),(1600000005,.box 0 [.cn 172 [.ptr 1500000009 0 0 0,.ptr 1500000005 0 0 0]]),(1600000006,.box 0 [p9 ls]),(1500000009,.box 0 [.ref 1500000028 0 0 n1]),(1500000005,.box 0 [eI 1]),(1500000028,.row 0 ⟨1,false⟩ false (bm G1 ((bn m (dB ls ab) n c t).1.s)))]):=by
 intro n;have ⟨⟨zu,zv⟩,hd1,hd2⟩:=aI hm;induction n with
 |zero=>
  intro c t hl hc hz hs;have hk:((c.length:Int)==m.ae)=true:=beq_iff_eq.2 (by omega);have ht:dD c.length (bm eI t.zs)=bm eI c:=by rw [←List.map_take,hz.1]
  have hzl:c.length<=(bm eI t.zs).length:=by simpa using hz.2
  refine fL.cW 91 [.tmp 8] func262 (hv:= ?_);simp -dsimp -implicitDefEqProofs only [go_sem,hk];refine aj.lx 8 mixed rfl ?_;simp -dsimp -implicitDefEqProofs only [ft,dc,uq5,uq6];have s7:=iF c (by omega);rcases hq:decide ((bf c c.length:Int)<m.least) with _|_
  . have hq':=of_decide_eq_false hq;have eZ:bn m (dB ls ab) 0 c t=(⟨t.af,t.zs,((dB ls ab) t.s c).1⟩,((dB ls ab) t.s c).2):=(by rw [bn,if_neg hq']);rw [eZ];simp -dsimp -implicitDefEqProofs only [go_sem,ht,uq6];refine ⟨hz.2,?_⟩;(refine an (s7) ?_;try simp -dsimp -implicitDefEqProofs only [go_sem, *]);refine ⟨by exact rfl,hz.2,?_⟩;refine cX (Xa m ab ls n1 hV c t.af (t.zs.map eI) t.s (by omega) (by omega) ht (by simpa using hs)) ⟨⟨?_,?_⟩,?_,?_⟩ ?_
    . simp -dsimp -implicitDefEqProofs only [go_sem]
    . simp -dsimp -implicitDefEqProofs only [go_sem];simp [ao,aq,ck]
    . simp -dsimp -implicitDefEqProofs only [go_sem]
    . simp -dsimp -implicitDefEqProofs only [go_sem];simp
    rintro r m' ⟨hr,hm'⟩;rw [hr,hm'];simp -dsimp -implicitDefEqProofs only [go_sem];refine ⟨_,rfl,aM ?_ ?_⟩
    . simp -dsimp -implicitDefEqProofs only [go_sem]
    simp -dsimp -implicitDefEqProofs only [go_sem];simp [ao,aq,ck]
  have hq':=oT hq;have eZ:bn m (dB ls ab) 0 c t=(t,true):=by rw [bn,if_pos hq']
  rw [eZ];simp -dsimp -implicitDefEqProofs only [go_sem,ht,uq6];refine ⟨hz.2,?_⟩;(refine an (s7) ?_;try simp -dsimp -implicitDefEqProofs only [go_sem, *]);refine ⟨by exact rfl,_,rfl,aM ?_ ?_⟩
  . simp -dsimp -implicitDefEqProofs only [go_sem]
  simp -dsimp -implicitDefEqProofs only [go_sem];simp [ao,aq,ck]
 |succ n ih=>
  intro c t hl hc hz hs;have hk:((c.length:Int)==m.ae)=false:=beq_eq_false_iff_ne.2 (by omega);refine fL.cW 91 [.tmp 8] func262 (hv:= ?_);simp -dsimp -implicitDefEqProofs only [go_sem,hk];refine aj.up [0,1,2,5,6,9,10] [47,61,69,70,72,84] [1700000008,1700000010,1500000028] m.ak.toNat (λi=>(eO (aS m (dB ls ab) n c) t i).2=true) (λi=>[(11,eI i)]) (λi=>[(1700000008,.box 0 [.ref 1700000010 (eO (aS m (dB ls ab) n c) t i).1.af 0 c.length]),(1700000010,.row (eO (aS m (dB ls ab) n c) t i).1.af ⟨1,false⟩ true ((eO (aS m (dB ls ab) n c) t i).1.zs.map eI)),(1500000028,.row 0 ⟨1,false⟩ false (bm G1 ((eO (aS m (dB ls ab) n c) t i).1.s)))]) rfl ?_ rfl (λi hi hI=> ?_) (λhI=> ?_)
  . simp -dsimp -implicitDefEqProofs only [go_sem];simp [eO]
  . have hu:DN c (eO (aS m (dB ls ab) n c) t i).1:=pU hz i;have kp:∃b:Nat,Dm n1 b (eO (aS m (dB ls ab) n c) t i).1.s/\b+8^n<=1000000:=by
     obtain ⟨b0,hJ0,hb0⟩:=hs;refine ⟨b0+i*8^n,Ge (Ce n1) (λc' t' b'=>zb hm (Ce n1) (Cf n1 ls ab) n c' t' b') t b0 hJ0 i,?_⟩;have h8:(i+1)*8^n<=8*8^n:=Nat.mul_le_mul_right _ (by omega);have h9:(i+1)*8^n=i*8^n+8^n:=Nat.succ_mul i (8^n);have h10:8^(n+1)=8*8^n:=(by rw [Nat.pow_succ,Nat.mul_comm]);omega
    have hlt:decide ((i:Int)<m.ak)=true:=dT (by omega);have hS:=iX hI;have cy:(aS m (dB ls ab) n c i (eO (aS m (dB ls ab) n c) t i).1).2=false->bn m (dB ls ab) (n+1) c t=aS m (dB ls ab) n c i (eO (aS m (dB ls ab) n c) t i).1:=λh=>by rw [←hS] at h ⊢;rw [dP,o9 h m.ak.toNat (by omega)]
    rw [hS];clear hS hI;generalize (eO (aS m (dB ls ab) n c) t i).1=u at*;obtain ⟨hu1,hu2⟩:=hu;have htk:dD c.length (bm eI u.zs)=bm eI c:=(by rw [←List.map_take,hu1]);have hcl:c.length<=6:=(by omega)
    have hih:=ih (c++[(i:Int)]) ⟨u.af+1,c++[(i:Int)],u.s⟩ (by simp;omega) (λx hx=>by
     rcases List.mem_append.1 hx with h|h
     . exact hc x h
     simp at h;omega) ⟨e7,ko _⟩ kp
    simp only [bj,dR,bI,Nat.zero_add] at hih;have cG:=kz (c++[(i:Int)]) (by simp) (by simp;omega);simp only [bj,dR,bI,Nat.zero_add,Nat.add_sub_cancel] at cG;have ou:bm eI c++[eI (i:Int)]=bm eI (c++[(i:Int)]):=(by simp);have l7:bH m c i=(c.isEmpty|| !decide (fj ((i:Int)-c.getD (c.length-1) 0)>m.step)):=by
     unfold bH;congr 1;by_cases h:fj ((i:Int)-c.getD (c.length-1) 0)<=m.step
     . rw [decide_eq_true h,decide_eq_false (by omega)];rfl
     rw [decide_eq_false h,decide_eq_true (by omega)];rfl
    have dK:fZ m c i= !decide ((aZ (c++[(i:Int)]) c.length:Int)>m.same):=by
     unfold fZ;by_cases h:(aZ (c++[(i:Int)]) c.length:Int)<=m.same
     . rw [decide_eq_true h,decide_eq_false (by omega)];rfl
     rw [decide_eq_false h,decide_eq_true (by omega)];rfl
    simp -dsimp -implicitDefEqProofs only [go_sem,hlt];refine aj.draw mixed rfl ?_;have hfn:rM pG 216 .neq=some false:=rfl;rcases hk0:decide ((c.length:Int)>0) with _|_
    . have hce:c=[]:=by
       have:=of_decide_eq_false hk0;exact List.eq_nil_of_length_eq_zero (by omega)
      have hsT:bH m c i=true:=(by rw [hce];rfl);clear hce;simp -dsimp -implicitDefEqProofs only [go_sem,hfn,hk0];refine ⟨by exact rfl,hu2,by omega,?_⟩;refine aj.lx 13 mixed rfl ?_;simp -dsimp -implicitDefEqProofs only [ft,dc,uq5,uq6];have htl:dD (c.length+1) (bm eI (c++[(i:Int)]))=bm eI (c++[(i:Int)]):=cm (by simp);rcases hq2:decide ((aZ (c++[(i:Int)]) c.length:Int)>m.same) with _|_
      . have hcB:aS m (dB ls ab) n c i u=bn m (dB ls ab) n (c++[(i:Int)]) ⟨u.af+1,c++[(i:Int)],u.s⟩:=(by rw [aS,if_pos hsT,if_pos (by rw [dK,hq2];rfl),hu1]);rw [hcB] at cy ⊢;clear hcB;generalize bn m (dB ls ab) n (c++[(i:Int)]) ⟨u.af+1,c++[(i:Int)],u.s⟩=w at*;obtain ⟨w,b⟩:=w;simp -dsimp -implicitDefEqProofs only [go_sem,htk,ou,htl];(refine an (cG) ?_;try simp -dsimp -implicitDefEqProofs only [go_sem, *]);refine ⟨by exact rfl,?_⟩;refine cX hih ⟨⟨?_,?_⟩,?_,?_⟩ ?_
        . simp -dsimp -implicitDefEqProofs only [go_sem]
        . simp -dsimp -implicitDefEqProofs only [go_sem];simp [ao,aq,ck]
        . simp -dsimp -implicitDefEqProofs only [go_sem]
        . simp -dsimp -implicitDefEqProofs only [go_sem];simp
        rintro r m' ⟨hr,hm'⟩;rw [hr,hm'];clear hr hm';cases b with
        |false=>
         rw [cy rfl];simp -dsimp -implicitDefEqProofs only [go_sem];refine ⟨by omega,_,rfl,aM ?_ ?_⟩
         . simp -dsimp -implicitDefEqProofs only [go_sem]
         simp -dsimp -implicitDefEqProofs only [go_sem];simp [ao,aq,ck]
        |true=>
         simp -dsimp -implicitDefEqProofs only [go_sem];exact ⟨by omega,⟨by omega,by omega⟩,by simp⟩
      have hcB:aS m (dB ls ab) n c i u=(⟨u.af+1,c++[(i:Int)],u.s⟩,true):=(by rw [aS,if_pos hsT,if_neg (by rw [dK,hq2];exact λh=>by cases h),hu1]);rw [hcB];clear hcB cy;simp -dsimp -implicitDefEqProofs only [go_sem,htk,ou,htl];(refine an (cG) ?_;try simp -dsimp -implicitDefEqProofs only [go_sem, *]);exact ⟨by exact rfl,by omega,⟨by omega,by omega⟩,by simp⟩
    have hkp:=oT hk0;have hla:c.getD (c.length-1) 0=c[c.length-1]:=(by simp [uq7,show c.length-1<c.length by omega]);have ka:(bm eI u.zs)[c.length-1]? =some (eI (c.getD (c.length-1) 0)):=by have h1:(dD c.length (bm eI u.zs))[c.length-1]? =(bm eI u.zs)[c.length-1]? :=(by rw [List.getElem?_take];simp;omega);rw [←h1,htk,hla];simp [show c.length-1<c.length by omega]
    have hlb:=hc _ (uq9 (show c.length-1<c.length by omega));rw [←hla] at hlb;generalize c.getD (c.length-1) 0=z at*;clear hla;have e1:((c.length:Int)-1).toNat=c.length-1:=(by omega);have qc:=jq ((i:Int)-z) (by omega);rcases hq:decide (fj ((i:Int)-z)>m.step) with _|_
    . have hsT:bH m c i=true:=(by rw [l7,hq];simp);simp -dsimp -implicitDefEqProofs only [go_sem,hfn,hk0,e1,ka];refine ⟨⟨by omega,by omega⟩,⟨by omega,by omega⟩,⟨by omega,by omega⟩,?_⟩;(refine an (qc) ?_;try simp -dsimp -implicitDefEqProofs only [go_sem, *]);refine ⟨by exact rfl,by omega,?_⟩;refine aj.lx 13 mixed rfl ?_;simp -dsimp -implicitDefEqProofs only [ft,dc,uq5,uq6];have htl:dD (c.length+1) (bm eI (c++[(i:Int)]))=bm eI (c++[(i:Int)]):=cm (by simp);rcases hq2:decide ((aZ (c++[(i:Int)]) c.length:Int)>m.same) with _|_
      . have hcB:aS m (dB ls ab) n c i u=bn m (dB ls ab) n (c++[(i:Int)]) ⟨u.af+1,c++[(i:Int)],u.s⟩:=(by rw [aS,if_pos hsT,if_pos (by rw [dK,hq2];rfl),hu1]);rw [hcB] at cy ⊢;clear hcB;generalize bn m (dB ls ab) n (c++[(i:Int)]) ⟨u.af+1,c++[(i:Int)],u.s⟩=w at*;obtain ⟨w,b⟩:=w;simp -dsimp -implicitDefEqProofs only [go_sem,htl];(refine an (cG) ?_;try simp -dsimp -implicitDefEqProofs only [go_sem, *]);refine ⟨by exact rfl,?_⟩;refine cX hih ⟨⟨?_,?_⟩,?_,?_⟩ ?_
        . simp -dsimp -implicitDefEqProofs only [go_sem]
        . simp -dsimp -implicitDefEqProofs only [go_sem];simp [ao,aq,ck]
        . simp -dsimp -implicitDefEqProofs only [go_sem]
        . simp -dsimp -implicitDefEqProofs only [go_sem];simp
        rintro r m' ⟨hr,hm'⟩;rw [hr,hm'];clear hr hm';cases b with
        |false=>
         rw [cy rfl];simp -dsimp -implicitDefEqProofs only [go_sem];refine ⟨by omega,_,rfl,aM ?_ ?_⟩
         . simp -dsimp -implicitDefEqProofs only [go_sem]
         simp -dsimp -implicitDefEqProofs only [go_sem];simp [ao,aq,ck]
        |true=>
         simp -dsimp -implicitDefEqProofs only [go_sem];exact ⟨by omega,⟨by omega,by omega⟩,by simp⟩
      have hcB:aS m (dB ls ab) n c i u=(⟨u.af+1,c++[(i:Int)],u.s⟩,true):=(by rw [aS,if_pos hsT,if_neg (by rw [dK,hq2];exact λh=>by cases h),hu1]);rw [hcB];clear hcB cy;simp -dsimp -implicitDefEqProofs only [go_sem,htl];(refine an (cG) ?_;try simp -dsimp -implicitDefEqProofs only [go_sem, *]);exact ⟨by exact rfl,by omega,⟨by omega,by omega⟩,by simp⟩
    have hsF:bH m c i=false:=by
     rw [l7,hq];cases c with
     |nil=>simp at hkp
     |cons=>rfl
    have hcB:aS m (dB ls ab) n c i u=(u,true):=(by rw [aS,if_neg (by rw [hsF];exact λh=>by cases h)]);rw [hcB];clear hcB cy;simp -dsimp -implicitDefEqProofs only [go_sem,hfn,hk0,e1,ka];refine ⟨⟨by omega,by omega⟩,⟨by omega,by omega⟩,⟨by omega,by omega⟩,?_⟩;(refine an (qc) ?_;try simp -dsimp -implicitDefEqProofs only [go_sem, *]);exact ⟨by exact rfl,⟨by omega,by omega⟩,by simp⟩
  simp -dsimp -implicitDefEqProofs only [pz,Nat.reduceBEq,Nat.reduceDiv,Nat.reduceAdd,↓reduceIte,Nat.reduceEqDiff];have hlt:decide (((m.ak.toNat:Nat):Int)<m.ak)=false:=dF (by omega);simp -dsimp -implicitDefEqProofs only [go_sem,hlt];rw [dP];refine ⟨_,⟨by rw [hI],rfl⟩,aM ?_ ?_⟩
  . simp -dsimp -implicitDefEqProofs only [go_sem]
  simp -dsimp -implicitDefEqProofs only [go_sem];simp [ao,aq,ck]
def dn (ls:List lL) (k:lI):Nat:=(bB ls k ls.length).length
def Gh (ls:List lL) (ab ks:lL) (d:Nat):Option lI:=ks.find? λk=> !DP ab k&&decide (dn ls k=d)
def Ng (ls:List lL) (ab ks:lL):Nat->lL
 |0=>[]
 |d+1=>match Gh ls ab ks (d+1) with
  |some k=>[k]
  |none=>Ng ls ab ks d
theorem J9 (ls:List lL) (ab ks:lL):∀d,∀k∈Ng ls ab ks d,k∈ks
 |0,k,h=>by cases h
 |d+1,k,h=>by
  unfold Ng at h;split at h
  . rename_i k' e;rw [List.mem_singleton] at h;subst h;exact List.mem_of_find?_eq_some e
  exact J9 ls ab ks d k h
theorem Cg (ls:List lL) (ab:lL) (n1:Nat) (hn:ls.length<n1):∀(ks:lL) (st:List (Option lI)),st.length=n1→
 (bA (dB ls ab) st ks).2=true/\(bA (dB ls ab) st ks).1.length=n1/\(bA (dB ls ab) st ks).1.getD 0 none=st.getD 0 none∧
   ∀d,0<d->d<n1->(bA (dB ls ab) st ks).1.getD d none=(st.getD d none).or (Gh ls ab ks d)
 | [],st,h=>⟨rfl,h,rfl,λd _ _=>by simp [bA,Gh]⟩
 |k::ks,st,h=>by
  have ht:(dB ls ab st k).2=true:=rfl;have hl:(dB ls ab st k).1.length=n1:=Cf n1 ls ab 0 st k h;obtain ⟨i1,i2,i3,i4⟩:=Cg ls ab n1 hn ks (dB ls ab st k).1 hl;rw [bA,if_pos ht];have hdl:(bB ls k ls.length).length<=ls.length:=gw ls k ls.length;refine ⟨i1,i2,?_,λd hd hdn=> ?_⟩
  . rw [i3];unfold dB;simp only;split
    . rfl
    split
    . rename_i h0;rw [uq7,List.getElem?_set_ne (by omega),←uq7]
    rfl
  rw [i4 d hd hdn];unfold Gh;rw [List.find?_cons];unfold dB;simp only;cases hin:DP ab k with
  |true=>simp
  |false=>
   rw [if_neg (by simp)];simp only [Bool.not_false,uq3];by_cases e:dn ls k=d
   . rw [decide_eq_true e];simp only;have e':(bB ls k ls.length).length=d:=e;rw [e'];by_cases hz:st.getD d none=none
     . rw [if_pos ⟨hd,hz⟩,hz,uq7,List.getElem?_set_self (by omega)];rfl
     rw [if_neg (λhh=>hz hh.2)];cases hs:st.getD d none with
     |none=>exact absurd hs hz
     |some x=>rfl
   rw [decide_eq_false e];simp only;split
   . rw [uq7,List.getElem?_set_ne (by exact e),←uq7]
   rfl
def oF (st:List (Option lI)) (n:Nat) (l:lN):Option lI:=l.foldl (λo x=>o.or (st.getD (n-1-x) none)) none
theorem Dn (st:List (Option lI)) (n:Nat) (l:lN) (x:Nat):oF st n (l++[x])=(oF st n l).or (st.getD (n-1-x) none):=by simp [oF]
theorem Gi (ls:List lL) (ab ks:lL) (st:List (Option lI)) (n:Nat) (h:∀d,0<d->d<n+1->st.getD d none=Gh ls ab ks d):
 ∀k,k<=n->Ng ls ab ks n=match oF st (n+1) (db k) with|some x=>[x]|none=>Ng ls ab ks (n-k)
 |0,_=>rfl
 |k+1,hk=>by
  have ih:=Gi ls ab ks st n h k (by omega);rw [ih,List.range_succ,Dn];cases ho:oF st (n+1) (db k) with
  |some x=>rfl
  |none=>
   simp only [Option.none_or];rw [h (n+1-1-k) (by omega) (by omega)];obtain ⟨d,hd⟩:∃d,n-k=d+1:=⟨n-k-1,by omega⟩;rw [hd,show n+1-1-k=d+1 by omega,show n-(k+1)=d by omega,Ng]
theorem Vx (ls:List lL) (ab ks:lL) (st:List (Option lI)) (n:Nat) (h0:st.getD 0 none=none) (h:∀d,0<d->d<n+1->st.getD d none=Gh ls ab ks d):
 (oF st (n+1) (db (n+1))).toList=Ng ls ab ks n:=by
 rw [Gi ls ab ks st n h n (ko _),List.range_succ,Dn,show n+1-1-n=0 by omega,h0,show n-n=0 by omega];cases oF st (n+1) (db n)<;>rfl
def p_ (ls:List lL) (gs:lL) (d:Nat):Option lI:=gs.find? λk=>decide (dn ls k=d)
theorem Gj (ls:List lL) (ab ks:lL) (d:Nat) (hd:0<d):p_ ls (ks.filter (J6 ls ab)) d=Gh ls ab ks d:=by
 unfold p_ Gh;rw [List.find?_filter];congr 1;funext k;unfold J6;rw [ug ls k ls.length (ko _)];by_cases e:dn ls k=d
 . have:0<(bB ls k ls.length).length:=(by unfold dn at e;omega);rw [decide_eq_true this,decide_eq_true e,uq3];simp
 rw [decide_eq_false e];simp
theorem MP (ls:List lL) (gs:lL) (d i:Nat) (h:i<gs.length) (hn:p_ ls (gs.take i) d=none):p_ ls (gs.take (i+1)) d=if dn ls gs[i]=d then some gs[i] else none:=by
 unfold p_ at*;rw [eX h,List.find?_append,hn,Option.none_or,List.find?_cons];by_cases e:dn ls gs[i]=d
 . rw [decide_eq_true e,if_pos e]
 rw [decide_eq_false e,if_neg e];rfl
theorem MQ (ls:List lL) (gs:lL) (d i:Nat) (k:lI) (h:p_ ls (gs.take i) d=some k):p_ ls gs d=some k:=by
 unfold p_ at*;conv=>lhs;rw [←List.take_append_drop i gs,List.find?_append,h]
 rfl
def MR (ls:List lL) (gs:lL) (n:Nat):Nat->Option lI
 |0=>none
 |i+1=>(MR ls gs n i).or (p_ ls gs (n-i))
theorem J_ (ls:List lL) (ab ks:lL) (n:Nat):∀i,i<=n->Ng ls ab ks n=match MR ls (ks.filter (J6 ls ab)) n i with|some k=>[k]|none=>Ng ls ab ks (n-i)
 |0,_=>rfl
 |i+1,h=>by
  rw [J_ ls ab ks n i (by omega),MR];cases MR ls (ks.filter (J6 ls ab)) n i with
  |some k=>rfl
  |none=>
   obtain ⟨d,hd⟩:∃d,n-i=d+1:=⟨n-i-1,by omega⟩;rw [Option.none_or,Gj ls ab ks (n-i) (by omega),hd,show n-(i+1)=d by omega];simp only [Ng]
theorem SZ (ls:List lL) (ab ks:lL) (n:Nat):(MR ls (ks.filter (J6 ls ab)) n n).toList=Ng ls ab ks n:=by rw [J_ ls ab ks n n (ko _),Nat.sub_self];cases MR ls (ks.filter (J6 ls ab)) n n<;>rfl
theorem T5 {m:aL} {t ab:lL} (hF:MN m t ab):Gg m ab (az m t ab (t.getD 0 []).length) ((t.getD 0 []).length+1):=by
 have hll:(az m t ab (t.getD 0 []).length).length=(t.getD 0 []).length:=by rw [az,b6,bd]
 have hwd:=hF.wd;have s8:=hF.num;refine ⟨by have:=hF.tl;have:=hF.le;omega,λx hx=>by have:=(hF.cut x hx).1;omega,by omega,λl hl=> ?_,by omega⟩;obtain ⟨k,_,rfl⟩:=l4 hl;obtain ⟨h1,h2⟩:=ub hF k;exact ⟨h1,λx hx=>by have:=h2 x hx;omega⟩
def Ch (m:aL) (t ab:lL):lI:=(bA (bP (az m t ab (t.getD 0 []).length) ab) (bt ((t.getD 0 []).length+1) 0) (bu m)).1
theorem Gk (m:aL) (t ab:lL) (hF:MN m t ab):Fn pG 233 [jQ m t,aQ ab] true (· =aP (Ch m t ab)):=by
 refine Fn.av 18 [.tmp 4] func233 (hv:= ?_);have hV:=T5 hF;have hm:=hF.pg;have s8:=hF.num;have hwd:=hF.wd;have hp:=gu m t ab hF.pg hF.tl hF.le hF.t0 hF.row hF.wd hF.cut;have ht0:=hF.t0;have g0:=get_some ht0;have eg:t[0]=t.getD 0 []:=by rw [uq7,g0];rfl
 rw [eg] at g0;have h0:qA ((t.getD 0 []).length+1) 0 (bt ((t.getD 0 []).length+1) (0:Int)):=⟨by simp,λx hx=>by have:=List.eq_of_mem_replicate hx;omega⟩;have h8:(8:Nat)^m.ae.toNat<=8^6:=Nat.pow_le_pow_right (by decide) (by omega);have eZ:=W_ m hm ab _ _ hV m.ae.toNat [] ⟨0,[],bt ((t.getD 0 []).length+1) 0⟩ (by simp;omega) (λx hx=>by cases hx) ⟨rfl,ko _⟩ ⟨0,h0,by omega⟩;have hsp:=(iH m (bP (az m t ab (t.getD 0 []).length) ab) m.ae.toNat [] ⟨0,[],bt ((t.getD 0 []).length+1) 0⟩ ⟨rfl,ko _⟩).2.1;unfold Ch;rw [show a6 m m.ae.toNat []=bu m from rfl] at hsp;have hll:(az m t ab (t.getD 0 []).length).length=(t.getD 0 []).length:=by rw [az,b6,bd]
 have hwl:=(rz (az m t ab (t.getD 0 []).length) ab (bu m) (bt ((t.getD 0 []).length+1) 0) (by rw [hll,List.length_replicate])).2.1;rw [←hsp] at hwl ⊢;rw [hll] at hwl;clear hsp h0 h8 hV hll;generalize bn m (bP (az m t ab (t.getD 0 []).length) ab) m.ae.toNat [] ⟨0,[],bt ((t.getD 0 []).length+1) 0⟩=w at*;generalize az m t ab (t.getD 0 []).length=ls at*;generalize t.getD 0 []=r0 at*;simp only [bI,cQ] at eZ;have eN:((r0.length:Int)+1).toNat=r0.length+1:=by omega
 simp -dsimp -implicitDefEqProofs only [go_sem,g0,eN];((with_reducible and_intros);all_goals try first|omega|(refine ⟨?_,?_⟩<;>omega));refine bN 300000 14 [] func171 rfl rfl rfl rfl rfl (by exact oT rfl) ?_;simp -dsimp -implicitDefEqProofs only [go_sem];refine au hp (by simp [ax,ao,aq,aF]) ?_;simp -dsimp -implicitDefEqProofs only [go_sem];refine o4 1600000000 310000 16 [] func222 rfl rfl rfl rfl rfl (by exact oT rfl) ?_;simp -dsimp -implicitDefEqProofs only [go_sem];refine jk 1700000000 eZ ⟨?_,?_⟩ ⟨⟨?_,?_⟩,?_,?_⟩ ?_
 . simp -dsimp -implicitDefEqProofs only [go_sem]
 . simp -dsimp -implicitDefEqProofs only [go_sem]
 . simp -dsimp -implicitDefEqProofs only [go_sem]
 . simp -dsimp -implicitDefEqProofs only [go_sem];simp [ao,aq,ck]
 . simp -dsimp -implicitDefEqProofs only [go_sem,List.map_replicate]
 . simp -dsimp -implicitDefEqProofs only [go_sem];simp
 rintro r m' ⟨hr,hm'⟩;rw [hr,hm'];simp -dsimp -implicitDefEqProofs only [go_sem];refine ⟨⟨by omega,by simp⟩,by rw [cm (by simp;omega)]⟩
theorem Vy (xs:lI) (h:xs.length<=1048576) (h0:∀x∈xs,0<=x/\x<=1000000):Fn pG 232 [aP xs] true (· =eI xs.sum):=by
 refine Fn.av 17 [.tmp 2] func232 (hv:= ?_);simp -dsimp -implicitDefEqProofs only [go_sem];refine aj.up [6,7] [] [] xs.length (λi=>0<=(xs.take i).sum/\(xs.take i).sum<=1000000*i) (λi=>[(8,eI i),(3,eI (xs.take i).sum)]) (λ_=>[]) (by simp) ?_ rfl (λi hi hI=> ?_) (λhI=> ?_)
 . simp -dsimp -implicitDefEqProofs only [go_sem];all_goals first|rfl|skip
 . have gi:=get_some hi;have hx:=h0 _ (uq9 hi);have hs:(xs.take (i+1)).sum=(xs.take i).sum+xs[i]:=(by rw [eX hi,List.sum_append];simp);rw [hs];generalize (xs.take i).sum=s at*;generalize xs[i]=x at*;simp -dsimp -implicitDefEqProofs only [go_sem,aE hi,gi];((with_reducible and_intros);all_goals try first|omega|(refine ⟨?_,?_⟩<;>omega)|exact rfl)
 simp -dsimp -implicitDefEqProofs only [go_sem,ay,e7]
theorem zd (m:aL) (t ab:lL) (h:t.length<=1048576) (h2:∀x∈t,x.length<=1048576) (h3:ab.length<=1048576) (h4:∀x∈ab,x.length<=1048576):Fn pG 179 [jQ m t,aQ ab] true (· = .aX [eI (if bg m t ab=true then (cj m t ab).length else 0),eI (if bg m t ab=true then 0 else 1)]):=by
 refine Fn.av 18 [.tmp 4,.tmp 5] func179 (hv:= ?_);have hc:=ki m t ab h h2 h3 h4;rcases hd:bg m t ab with _|_
 . rw [hd,if_neg (by simp)] at hc;rw [if_neg (by simp),if_neg (by simp)];have e:((1:Int) != 0)=true:=rfl;simp -dsimp -implicitDefEqProofs only [go_sem];refine aa hc ?_;simp -dsimp -implicitDefEqProofs only [go_sem,e]
 rw [hd,if_pos rfl] at hc;rw [if_pos rfl,if_pos rfl];have hF:=i_ hd;have hp:=Gk m t ab hF;have hll:(az m t ab (t.getD 0 []).length).length=(t.getD 0 []).length:=by rw [az,b6,bd]
 obtain ⟨-,v1,v2⟩:=rz (az m t ab (t.getD 0 []).length) ab (bu m) (bt ((t.getD 0 []).length+1) 0) (by rw [hll,List.length_replicate]);have hz:((bt ((t.getD 0 []).length+1) (0:Int)).drop 1).sum=0:=by simp
 rw [hz,Int.zero_add] at v2;have v2:((Ch m t ab).drop 1).sum=((cj m t ab).length:Int):=v2;have hJ:∃b,qA ((t.getD 0 []).length+1) b (Ch m t ab)/\b<=1000000:=by have h0:qA ((t.getD 0 []).length+1) 0 (bt ((t.getD 0 []).length+1) (0:Int)):=⟨by simp,λx hx=>by have:=List.eq_of_mem_replicate hx;omega⟩;have s8:=hF.num;have h8:(8:Nat)^m.ae.toNat<=8^6:=Nat.pow_le_pow_right (by decide) (by omega);have hsp:=(iH m (bP (az m t ab (t.getD 0 []).length) ab) m.ae.toNat [] ⟨0,[],bt ((t.getD 0 []).length+1) 0⟩ ⟨rfl,ko _⟩).2.1;have hj:=zb hF.pg (nO ((t.getD 0 []).length+1)) (zc ((t.getD 0 []).length+1) (az m t ab (t.getD 0 []).length) ab) m.ae.toNat [] ⟨0,[],bt ((t.getD 0 []).length+1) 0⟩ 0 h0;rw [hsp] at hj;exact ⟨_,hj,by omega⟩
 obtain ⟨b,⟨hl,hb⟩,hb6⟩:=hJ;have hwd:=hF.wd;have hs:=Vy ((Ch m t ab).drop 1) (by simp;omega) (λx hx=>by have:=hb x (List.mem_of_mem_drop hx);omega);rw [v2] at hs;generalize Ch m t ab=st at*;have e:((0:Int) != 0)=false:=rfl;have eT:dD (st.length-1) (List.drop 1 (bm eI st))=bm eI (List.drop 1 st):=by rw [List.map_drop,cm (by simp)]
 simp -dsimp -implicitDefEqProofs only [go_sem];refine aa hc ?_;simp -dsimp -implicitDefEqProofs only [go_sem,e];refine aa hp ?_;simp -dsimp -implicitDefEqProofs only [go_sem,eT];((with_reducible and_intros);all_goals try omega);refine aa hs ?_;simp -dsimp -implicitDefEqProofs only [go_sem]
def ze (m:aL) (t ab:lL):lL:=if bg m t ab=true then Ng (az m t ab (t.getD 0 []).length) ab (bu m) (t.getD 0 []).length else []
theorem S4 (b1 b2 b3 b4 b5:bc) (l:Nat):(if 1500000010=l then some b1 else if 1500000033=l then some b2 else if 1500000010=l then some b3 else if 1500000033=l then some b4 else if 1500000005=l then some b5 else none)=
 ah [(1500000010,b1),(1500000033,b2),(1500000005,b5)] l:=by
 simp only [aw,s_];by_cases h1:1500000010=l
 . rw [if_pos h1,if_pos h1]
 by_cases h2:1500000033=l
 . rw [if_neg h1,if_pos h2,if_neg h1,if_pos h2]
 rw [if_neg h1,if_neg h1,if_neg h1,if_neg h2,if_neg h2,if_neg h2]
theorem Qg (m:aL) (t ab:lL) (h:t.length<=1048576) (h2:∀x∈t,x.length<=1048576) (h3:ab.length<=1048576) (h4:∀x∈ab,x.length<=1048576):Fn pG 123 [jQ m t,aQ ab,eI 1] false (λr=>tv r (.aX [aQ (ze m t ab),eI (if bg m t ab=true then 0 else 1)])):=by
 refine Fn.X1 func123 rfl rfl (oT rfl) ?_;have er:(Tryz.f123).results.toList=[.tmp 6,.tmp 7]:=rfl;have hc:=ki m t ab h h2 h3 h4;unfold ze;rcases hd:bg m t ab with _|_
 . rw [hd,if_neg (by simp)] at hc;rw [if_neg (by simp),if_neg (by simp)];have e:((1:Int) != 0)=true:=rfl;refine C6.seq (by exact rfl) ?_;simp -dsimp -implicitDefEqProofs only [go_sem];refine C6.seq (by exact rfl) ?_;simp -dsimp -implicitDefEqProofs only [go_sem];refine aa hc ?_;simp -dsimp -implicitDefEqProofs only [go_sem,er,e]
 rw [hd,if_pos rfl] at hc;rw [if_pos rfl,if_pos rfl];have e:((0:Int) != 0)=false:=rfl;have hw:=kT 1 0 300;rw [show bx 1 0 300=true from rfl] at hw;have hF:=i_ hd;have hV:=T5 hF;have hm:=hF.pg;have s8:=hF.num;have hwd:=hF.wd;have hp:=gu m t ab hF.pg hF.tl hF.le hF.t0 hF.row hF.wd hF.cut;have ht0:=hF.t0;have g0:=get_some ht0;have eg:t[0]=t.getD 0 []:=by rw [uq7,g0];rfl
 rw [eg] at g0;refine C6.seq (by exact rfl) ?_;simp -dsimp -implicitDefEqProofs only [go_sem];refine C6.seq (by exact rfl) ?_;simp -dsimp -implicitDefEqProofs only [go_sem];refine aa hc ?_;simp -dsimp -implicitDefEqProofs only [go_sem,e];refine C6.seq (by exact rfl) ?_;simp -dsimp -implicitDefEqProofs only [go_sem];refine aa hw ?_;simp -dsimp -implicitDefEqProofs only [go_sem];refine C6.seq (by exact rfl) ?_;have eN:(((t.getD 0 []).length:Int)+1).toNat=(t.getD 0 []).length+1:=by omega
 simp -dsimp -implicitDefEqProofs only [go_sem,g0,eN];((with_reducible and_intros);all_goals try first|omega|(refine ⟨?_,?_⟩<;>omega))
 have eZ:=Xb m hm ab _ _ hV m.ae.toNat [] ⟨0,[],bt ((t.getD 0 []).length+1) none⟩ (by simp;omega) (λx hx=>by cases hx) ⟨rfl,ko _⟩ (by
  have h8:(8:Nat)^m.ae.toNat<=8^6:=Nat.pow_le_pow_right (by decide) (by omega)
  exact ⟨0,by simp [Dm],by omega⟩)
 have hsp:=(iH m (dB (az m t ab (t.getD 0 []).length) ab) m.ae.toNat [] ⟨0,[],bt ((t.getD 0 []).length+1) none⟩ ⟨rfl,ko _⟩).2.1;rw [show a6 m m.ae.toNat []=bu m from rfl] at hsp;have hll:(az m t ab (t.getD 0 []).length).length=(t.getD 0 []).length:=by rw [az,b6,bd]
 obtain ⟨-,w1,w2,w3⟩:=Cg (az m t ab (t.getD 0 []).length) ab ((t.getD 0 []).length+1) (by omega) (bu m) (bt ((t.getD 0 []).length+1) none) (by simp)
 have hw:=Vx (az m t ab (t.getD 0 []).length) ab (bu m) _ (t.getD 0 []).length (w2.trans (by simp [uq7])) (λd h0 h1=>(w3 d h0 (by omega)).trans (by
  have:(bt ((t.getD 0 []).length+1) (none:Option lI)).getD d none=none:=by rw [uq7,List.getElem?_replicate];split<;>rfl
  rw [this,Option.none_or]))
 rw [←hsp] at w1 hw;rw [←hw];clear hsp hw w2 w3 hV hll;generalize bn m (dB (az m t ab (t.getD 0 []).length) ab) m.ae.toNat [] ⟨0,[],bt ((t.getD 0 []).length+1) none⟩=w at*;generalize az m t ab (t.getD 0 []).length=ls at*;generalize t.getD 0 []=r0 at*;simp only [bI,cQ] at eZ;generalize hoo:(oF w.1.s (r0.length+1) (db (r0.length+1))).toList=R;refine C6.CB 28 0 ⟨1,false⟩ (bt (r0.length+1) (AV.val (Value.slice none 0 0))) (by decide) rfl ?_;refine C6.seq (by exact rfl) ?_;simp -dsimp -implicitDefEqProofs only [go_sem];refine bN 300000 14 [] func171 rfl rfl rfl rfl rfl (by exact oT rfl) ?_;simp -dsimp -implicitDefEqProofs only [go_sem];refine au hp (by simp [ax,ao,aq,aF]) ?_;simp -dsimp -implicitDefEqProofs only [go_sem];refine o4 1600000000 310000 16 [] func222 rfl rfl rfl rfl rfl (by exact oT rfl) ?_;simp -dsimp -implicitDefEqProofs only [go_sem];refine jk 1700000000 eZ ⟨?_,?_⟩ ⟨⟨?_,?_⟩,?_,?_⟩ ?_
 . simp -dsimp -implicitDefEqProofs only [go_sem]
 . simp -dsimp -implicitDefEqProofs only [go_sem]
 . simp -dsimp -implicitDefEqProofs only [go_sem]
 . simp -dsimp -implicitDefEqProofs only [go_sem];simp [ao,aq,ck]
 . simp -dsimp -implicitDefEqProofs only [go_sem,List.map_replicate,G1]
 . simp -dsimp -implicitDefEqProofs only [go_sem];simp
 rintro r m' ⟨hr,hm'⟩;rw [hr,hm'];simp -dsimp -implicitDefEqProofs only [go_sem];refine C6.seq (by exact rfl) ?_;simp -dsimp -implicitDefEqProofs only [go_sem];refine C6.X0 (by exact rfl) ?_;simp -dsimp -implicitDefEqProofs only [go_sem];refine ⟨by omega,?_⟩;refine jl 28 0 ⟨1,false⟩ false (bm G1 w.1.s) (IU (dD (r0.length+1) (List.drop 0 (bm G1 w.1.s)))) (by decide) rfl ?_ (λr hr=> ?_)
 . exact kx 0 (r0.length+1) (by simp [w1]) LR
 have ez:dD (r0.length+1) (List.drop 0 (bm G1 w.1.s))=bm G1 w.1.s:=by rw [uq6,cm (by simp [w1])]
 rw [ez] at hr;rw [hr];simp -dsimp -implicitDefEqProofs only [go_sem];refine T1.keep [10,33,5] [(10,.box 0 [.ref 33 0 0 0]),(33,.row 0 ⟨1,false⟩ true []),(5,.box 0 [eI 1])] [(10,.ptr 10 0 0 0),(5,.ptr 5 0 0 0),(35,.cn 225 [.bo ⟨1,false⟩ [.arr ⟨1,false⟩ (bm G1 w.1.s)] 0 0])] (aM ?_ ?_) ?_ ?_ ?_
 . simp -dsimp -implicitDefEqProofs only [go_sem]
 . simp -dsimp -implicitDefEqProofs only [go_sem];simp
 . simp -dsimp -implicitDefEqProofs only [go_sem]
 . simp [ao,aq]
 have hr0:r0.length<=1000:=hwd;clear eZ hm' hr hc hF s8 hwd hp
 refine T1.Vi (ys:=gM (w.1.s.map λo=>aQ o.toList)) 10 (λpre m1=>∃v,m1=[(1500000010,.box 0 [.ref 1500000033 v 0 (oF w.1.s (r0.length+1) (pre.map (·.1))).toList.length]),(1500000033,.row v ⟨1,false⟩ (oF w.1.s (r0.length+1) (pre.map (·.1))).isNone ((oF w.1.s (r0.length+1) (pre.map (·.1))).toList.map aP)),(1500000005,.box 0 [eI 1])]) [(10,.ptr 1500000010 0 0 0),(5,.ptr 1500000005 0 0 0),(35,.cn 225 [.bo ⟨1,false⟩ [.arr ⟨1,false⟩ (bm G1 w.1.s)] 0 0])] ?_ mixed rfl (by simp [ao,aq])
  (Dj _ _ (by simp) (λi h1 h2=> ?_) (by rw [b6,w1];omega)) ?_ ⟨_,⟨0,rfl⟩,λl=> ?_⟩ (λpre m1 ⟨v,h⟩=>by rw [h];simp [qv,bC]) (by exact rfl) (by exact rfl) (λpre x m1 hp hm1=> ?_) (λm1 hm1=> ?_)
 . simp -dsimp -implicitDefEqProofs only [go_sem]
 . simp only [List.getElem_map];refine ⟨_,rfl,?_⟩;cases w.1.s[i]'(by simpa using h1) with
   |none=>exact .inr ⟨rfl,rfl⟩
   |some k=>exact .inl rfl
 . simp -dsimp -implicitDefEqProofs only [go_sem]
 . simp -dsimp -implicitDefEqProofs only [go_sem];simp [oF]
 . obtain ⟨v,rfl⟩:=hm1;have hx:x.1<w.1.s.length:=Nat.lt_of_lt_of_eq x.2 (by rw [p5,b6]);have ey:(gM (w.1.s.map λo=>aQ o.toList))[x]=(eI ((r0.length-x.1:Nat):Int),aQ (w.1.s.getD (r0.length+1-1-x.1) none).toList):=by
    rw [Cd,b6,w1,uq7,List.getElem?_map,uq7 (l:=w.1.s),uq8 (by omega)];rfl
   rw [ey,cP,dw,cQ,Dn];generalize w.1.s.getD (r0.length+1-1-x.1) none=z at*;generalize oF w.1.s (r0.length+1) (pre.map (·.1))=o at*;simp -dsimp -implicitDefEqProofs only [ft,dc,uq5,uq6];have t0:Int.toNat 0=0:=rfl;have t1:Int.toNat 1=1:=rfl;rcases o with _|k0<;>rcases z with _|k1
   . simp only [DF,bI,cQ,GX,Option.none_or];have f:(if (1:Int)-0<0 then (1:Int)-0 else 0)=0:=(by decide);simp -dsimp -implicitDefEqProofs only [go_sem,f,t0];((with_reducible and_intros);all_goals try first|omega|(refine ⟨?_,?_⟩<;>omega)|exact rfl);exact ⟨_,⟨v+1,rfl⟩,S4 _ _ _ _ _⟩
   . simp only [DF,DG,bI,dR,dw,cQ,GX,GY,Option.none_or];have f:(if (1:Int)-0<((1:Nat):Int) then (1:Int)-0 else ((1:Nat):Int))=1:=(by decide);simp -dsimp -implicitDefEqProofs only [go_sem,f,t1];((with_reducible and_intros);all_goals try first|omega|(refine ⟨?_,?_⟩<;>omega)|exact rfl);exact ⟨_,⟨v+1,rfl⟩,S4 _ _ _ _ _⟩
   . simp only [DF,DG,bI,dR,dw,cQ,GY,Option.some_or];have f:(if (1:Int)-((1:Nat):Int)<0 then (1:Int)-((1:Nat):Int) else 0)=0:=(by decide);simp -dsimp -implicitDefEqProofs only [go_sem,f,t0];((with_reducible and_intros);all_goals try first|omega|(refine ⟨?_,?_⟩<;>omega)|exact rfl);exact ⟨_,⟨v+1,rfl⟩,S4 _ _ _ _ _⟩
   simp only [DG,bI,dR,dw,cQ,GY,Option.some_or];have f:(if (1:Int)-((1:Nat):Int)<((1:Nat):Int) then (1:Int)-((1:Nat):Int) else ((1:Nat):Int))=0:=(by decide);simp -dsimp -implicitDefEqProofs only [go_sem,f,t0];((with_reducible and_intros);all_goals try first|omega|(refine ⟨?_,?_⟩<;>omega)|exact rfl);exact ⟨_,⟨v+1,rfl⟩,S4 _ _ _ _ _⟩
 obtain ⟨v,rfl⟩:=hm1;have hn:(gM (w.1.s.map λo=>aQ o.toList)).length=r0.length+1:=by rw [p5,b6,w1]
 have ef:∀n,((List.finRange n).map (·.1))=db n:=λn=>List.ext_getElem (by simp) (λi h1 h2=>by simp);rw [ef,hn];generalize oF w.1.s (r0.length+1) (db (r0.length+1))=o at*;subst hoo;simp -dsimp -implicitDefEqProofs only [go_sem,er]
theorem Qh (m:aL) (t ab:lL) (h:t.length<=1048576) (h2:∀x∈t,x.length<=1048576) (h3:ab.length<=1048576) (h4:∀x∈ab,x.length<=1048576):Fn pG 106 [jQ m t,aQ ab,eI 1] false (λr=>tv r (.aX [aQ (ze m t ab),eI (if bg m t ab=true then 0 else 1)])):=by
 refine Fn.bY 69 [.tmp 6,.tmp 7] func106 (hv:= ?_);have hc:=pW m t ab h h2 h3 h4;unfold ze;rcases hd:bg m t ab with _|_
 . rw [hd,if_neg (by simp)] at hc;rw [if_neg (by simp),if_neg (by simp)];have e:((1:Int) != 0)=true:=rfl;have e2:((1:Int)==0)=false:=rfl;simp -dsimp -implicitDefEqProofs only [go_sem];refine aa hc ?_;simp -dsimp -implicitDefEqProofs only [go_sem,e,e2]
 rw [hd,if_pos rfl] at hc;rw [if_pos rfl,if_pos rfl];have e:((0:Int) != 0)=false:=rfl;have e2:((0:Int)==0)=true:=rfl;have hF:=i_ hd;have hw:=jD 1 0 300;rw [show bx 1 0 300=true from rfl] at hw;have ho:=ph m t ab hF;have hdr:=y8 m t ab hF;have hgl:=ry hF.pg t ab;have ht0:=hF.t0;have g0:=get_some ht0;have eg:t[0]=t.getD 0 []:=by rw [uq7,g0];rfl
 rw [eg] at g0;simp -dsimp -implicitDefEqProofs only [go_sem];refine aa hc ?_;simp -dsimp -implicitDefEqProofs only [go_sem,e2];refine aa hw ?_;simp -dsimp -implicitDefEqProofs only [go_sem,e];refine au ho (by simp [ax,ao,aq,aF]) ?_;have hgk:∀k∈cj m t ab,(k.length:Int)=m.ae:=λk hk=>(kj (m:=m) (by have:=hF.num;omega) (List.mem_filter.1 hk).1).len;have hdn:∀k∈cj m t ab,Fn pG 150 [jQ m t,aQ ab,aP k] true (· =aP (Gc m t ab k)):=λk hk=>hdr k (hgk k hk);have hl:∀k,(Gc m t ab k).length=dn (az m t ab (t.getD 0 []).length) k:=λk=>by unfold Gc dn;rw [show (az m t ab (t.getD 0 []).length).length=(t.getD 0 []).length by rw [az,b6,bd]]
 have cO:=SZ (az m t ab (t.getD 0 []).length) ab (bu m) (t.getD 0 []).length;rw [show (bu m).filter (J6 (az m t ab (t.getD 0 []).length) ab)=cj m t ab from rfl] at cO;rw [←cO];clear cO;have hwd:=hF.wd;clear hdr hgk hc hw;generalize cj m t ab=gs at*;generalize az m t ab (t.getD 0 []).length=ls at*;generalize t.getD 0 []=r0 at*;simp -dsimp -implicitDefEqProofs only [go_sem,g0];((with_reducible and_intros);all_goals try omega);have hb1:∀o:Option lI,o.toList.length<=1:=λo=>by cases o<;>simp
 refine aj.up [1,2,3,9] [41,45,57,58,66,67] [29] r0.length (λi=>True) (λi=>[(11,eI ((r0.length-i:Nat):Int)),(10,.ref 29 0 0 (MR ls gs r0.length i).toList.length)]) (λi=>[(29,.row 0 ⟨1,false⟩ (MR ls gs r0.length i).isNone ((MR ls gs r0.length i).toList.map aP))]) trivial ?_ rfl (λi hi _=> ?_) (λ_=> ?_)
 . simp -dsimp -implicitDefEqProofs only [go_sem,MR,DF,GX,bI,cQ]
 . have XG:decide (((r0.length-i:Nat):Int)>0)=true:=dT (by omega);have Tj:((r0.length-i:Nat):Int)-1=((r0.length-(i+1):Nat):Int):=(by omega);have hd1:r0.length-(i+1)<=1000:=(by omega);rw [MR];generalize r0.length-(i+1)=d1 at*;generalize r0.length-i=d at*;generalize hW:MR ls gs r0.length i=o at*;rcases o with _|k0
   . rw [Option.none_or];simp -dsimp -implicitDefEqProofs only [go_sem,XG,DF,GX,bI,cQ];have Uf:=λj k=>MQ ls gs d j k;have Ug:=λj h=>MP ls gs d j h;have fS:p_ ls (gs.take gs.length) d=p_ ls gs d:=(by rw [e7]);have h0:p_ ls [] d=none:=rfl;refine aj.up [1,2,3,9,11] [41,45,57,58,66,67] [29] gs.length (λ_=>True) (λj=>[(12,eI j),(10,.ref 29 0 0 (p_ ls (gs.take j) d).toList.length)]) (λj=>[(29,.row 0 ⟨1,false⟩ (p_ ls (gs.take j) d).isNone ((p_ ls (gs.take j) d).toList.map aP))]) trivial ?_ rfl (λj hj _=> ?_) (λ_=> ?_)
     . simp -dsimp -implicitDefEqProofs only [go_sem,h0,DF,GX,bI,cQ]
     . have gj:=get_some hj;have lj:=aE hj;have Uh:=hdn _ (uq9 hj);have hln:=hl gs[j];rcases hf:p_ ls (gs.take j) d with _|k1
       . rw [Ug j hj hf];clear Uf Ug;generalize gs[j]=g at*;rw [←hln];generalize Gc m t ab g=D at*;have e3:decide ((0:Int)<1)=true:=rfl;by_cases hD:D.length=d
         . rw [if_pos hD];have e4:((dn ls g:Int)==(d:Int))=true:=(by rw [←hln,hD];simp);simp -dsimp -implicitDefEqProofs only [go_sem,lj,e3,DF,GX,bI,cQ];refine aj.draw mixed rfl ?_;simp -dsimp -implicitDefEqProofs only [go_sem,gj];((with_reducible and_intros);all_goals try omega);(refine an (Uh) ?_;try simp -dsimp -implicitDefEqProofs only [go_sem, *]);refine ⟨by exact rfl,?_⟩;simp -dsimp -implicitDefEqProofs only [go_sem,DG,GY,bI,dR,cQ,dw,Nat.zero_add];((with_reducible and_intros);all_goals try omega);exact .inr ⟨⟨by omega,by omega⟩,by rw [Int.natCast_add];rfl⟩
         rw [if_neg hD];have e4:((dn ls g:Int)==(d:Int))=false:=(by rw [←hln];simp;omega);simp -dsimp -implicitDefEqProofs only [go_sem,lj,e3,DF,GX,bI,cQ];refine aj.draw mixed rfl ?_;simp -dsimp -implicitDefEqProofs only [go_sem,gj];((with_reducible and_intros);all_goals try omega);(refine an (Uh) ?_;try simp -dsimp -implicitDefEqProofs only [go_sem, *]);refine ⟨by exact rfl,?_⟩;simp -dsimp -implicitDefEqProofs only [go_sem,DF,GX,bI,cQ];((with_reducible and_intros);all_goals try first|(refine ⟨?_,?_⟩<;>omega)|exact rfl)
       have hm1:=Uf j k1 hf;have e3:decide (((1:Nat):Int)<1)=false:=rfl;simp -dsimp -implicitDefEqProofs only [go_sem,lj,e3,hm1,Tj,DG,GY,bI,dR,cQ,dw,Nat.zero_add];(all_goals try ((refine ⟨?_,?_⟩<;>omega)))
     simp -dsimp -implicitDefEqProofs only [go_sem,ay,Tj];(all_goals try ((refine ⟨?_,?_⟩<;>omega)))
   rw [Option.some_or];simp -dsimp -implicitDefEqProofs only [go_sem,XG,DG,GY,bI,dR,cQ,dw,Nat.zero_add];refine aj.up [1,2,3,9,11] [41,45,57,58,66,67] [] 0 (λ_=>True) (λj=>[(12,eI j),(10,.ref 29 0 0 1)]) (λ_=>[]) trivial ?_ rfl (λj hj _=>absurd hj (DE _)) (λ_=> ?_)
   . simp -dsimp -implicitDefEqProofs only [go_sem]
   have e3:decide (((1:Nat):Int)<1)=false:=rfl;cases hb0:decide ((0:Int)<(gs.length:Int)) with
   |true=>
    simp -dsimp -implicitDefEqProofs only [go_sem,hb0,e3,Tj,DG,GY,bI,dR,cQ,dw,Nat.zero_add];(all_goals try ((refine ⟨?_,?_⟩<;>omega)))
   |false=>
    simp -dsimp -implicitDefEqProofs only [go_sem,hb0,Tj,DG,GY,bI,dR,cQ,dw,Nat.zero_add];(all_goals try ((refine ⟨?_,?_⟩<;>omega)))
 have e0:decide (((r0.length-r0.length:Nat):Int)>0)=false:=by rw [Nat.sub_self];rfl
 generalize MR ls gs r0.length r0.length=o at*;simp -dsimp -implicitDefEqProofs only [go_sem,e0]
theorem Qi (ks:lL) (h:ks.length<=1048576):n8 pG 272 [aQ ks] ⟨1,false⟩ (ks.map aP):=by
 refine n8.cW 8 [.tmp 2] func272 (hv:= ?_);simp -dsimp -implicitDefEqProofs only [go_sem];intro c hc;rcases c with _|_
 . rcases ks with _|⟨k,ks⟩
   . simp -dsimp -implicitDefEqProofs only [go_sem,cQ,bI];exact .inr ⟨5,1,rfl,.inr ⟨rfl,rfl⟩⟩
   simp -dsimp -implicitDefEqProofs only [go_sem,dw,dR];exact ⟨by simp at h;omega,.inr ⟨5,1,by simp,.inl rfl⟩⟩
 have e:=hc rfl;simp -dsimp -implicitDefEqProofs only [go_sem,e];exact .inl ⟨rfl,rfl⟩
theorem Qj (xs:lI) (x:Int):has xs x=true↔x∈xs:=by
 unfold has;rw [Bool.not_eq_true',List.all_eq_false];constructor
 . rintro ⟨y,hy,h⟩;have:y=x:=(by simpa using h);exact this▸hy
 intro h;exact ⟨x,h,by simp⟩
def nQ (l:lL) (key c:lI):Bool:=(db c.length).all λi=>(c.getD i 0==key.getD i 0)||has (l.getD i []) (c.getD i 0)
theorem Ci (m:aL) (K:lL) {n i:Nat} (h:i<n):(kg m K n).getD i []=jF m K i:=by rw [uq7];simp [kg,h]
theorem Gl (m:aL) (K:lL) (i:Nat) (d:Int) (h:0<=d/\d<m.ak):has (jF m K i) d=K.any λk=>k.getD i 0==d:=by
 obtain ⟨j,rfl⟩:∃j:Nat,d=(j:Int):=⟨d.toNat,by omega⟩;have hj:j<m.ak.toNat:=by omega
 have e:has (jF m K i) (j:Int)=true↔j1 K i j=true:=by
  rw [Qj];constructor
  . intro hm;obtain ⟨q,_,e,hp⟩:=sJ hm;have:j=q:=(by omega);subst this;exact hp
  intro hp;exact qY hj hp
 exact Bool.eq_iff_iff.2 e
theorem IV (m:aL) (K:lL) (key c:lI) (n:Nat) (hc:c.length<=n) (hd:∀y∈c,0<=y/\y<m.ak):dV (kg m (K++[key]) n) c=nQ (kg m K n) key c:=by
 unfold dV nQ;refine Bool.eq_iff_iff.2 ?_;simp only [uq4,List.mem_range];refine forall_congr' λi=>imp_congr_right λhi=> ?_;have hci:c.getD i 0∈c:=by rw [uq7,uq8 hi];exact uq9 hi
 have hb:=hd _ hci;rw [Ci m _ (by omega),Ci m _ (by omega),Gl m _ i _ hb,Gl m _ i _ hb,List.any_append];have e:([key].any λk=>k.getD i 0==c.getD i 0)=(c.getD i 0==key.getD i 0):=by simp only [List.any_cons,List.any_nil,Bool.or_false];exact Bool.eq_iff_iff.2 ⟨λh=>by simp at h ⊢;exact h.symm,λh=>by simp at h ⊢;exact h.symm⟩
 rw [e,Bool.or_comm]
theorem Gm (t ab:lL) (key:lI) (k:Nat):∀i,i<=ab.length->jr t (ab++[key]) k i=jr t ab k i
 |0,_=>rfl
 |i+1,h=>by
  rw [gJ,gJ,Gm t ab key k i (by omega)];have:(ab++[key]).getD i []=ab.getD i []:=by rw [uq7,List.getElem?_append_left (by omega),←uq7]
  rw [this]
theorem Cj (m:aL) (t ab:lL) (key:lI) (k:Nat):bO m t (ab++[key]) k=if ((t.getD ab.length []).getD k 0==1)=true then kg m (jr t ab k ab.length++[key]) m.ae.toNat else bO m t ab k:=by
 unfold bO;rw [bj,List.length_singleton,gJ,Gm t ab key k _ (ko _)];have:(ab++[key]).getD ab.length []=key:=by simp [uq7]
 rw [this];split<;>rfl
def zf (m:aL) (t ab:lL) (i k:Nat):Bool:=((t.getD i []).getD k 0==0)&&dV (bO m t ab k) (ab.getD i [])
theorem Gn (m:aL) (t ab:lL) (i:Nat):∀n,oo m t ab i n=[]↔∀k,k<n->zf m t ab i k=false
 |0=>⟨λ_ k h=>absurd h (DE _),λ_=>rfl⟩
 |n+1=>by
  rw [pT];have ih:=Gn m t ab i n;constructor
  . intro h k hk;split at h
    . simp at h
    rename_i hb;by_cases e:k=n
    . subst e;simpa [zf] using hb
    exact ih.1 h k (by omega)
  intro h;have hb:zf m t ab i n=false:=h n (by omega);unfold zf at hb;rw [hb,if_neg (by simp)];exact ih.2 λk hk=>h k (by omega)
theorem Ck (m:aL) (t ab:lL):∀n,jT m t ab n=[]↔∀i,i<n->∀k,k<(t.getD 0 []).length->zf m t ab i k=false
 |0=>⟨λ_ k h=>absurd h (DE _),λ_=>rfl⟩
 |n+1=>by
  rw [nG,List.append_eq_nil_iff,Ck m t ab n,Gn];constructor
  . rintro ⟨h1,h2⟩ i hi k hk;by_cases e:i=n
    . subst e;exact h2 k hk
    exact h1 i (by omega) k hk
  intro h;exact ⟨λi hi=>h i (by omega),h n (by omega)⟩
theorem Gp (m:aL) (t ab:lL):lW m t ab=true↔∀i,i<ab.length->∀k,k<(t.getD 0 []).length->zf m t ab i k=false:=by
 rw [←Ck];unfold lW gS;rw [beq_iff_eq];constructor
 . intro h;exact List.eq_nil_of_length_eq_zero (by omega)
 intro h;rw [h];rfl
def Qk (m:aL) (t ab:lL) (key:lI) (k:Nat):Bool:=((t.getD ab.length []).getD k 0==0)&&dV (bO m t ab k) key
def Ql (m:aL) (t ab:lL) (key:lI) (k i:Nat):Bool:=(((t.getD ab.length []).getD k 0==1)&&((t.getD i []).getD k 0==0))&&nQ (bO m t ab k) key (ab.getD i [])
def nR (m:aL) (t ab:lL) (key:lI):Bool:=(db (t.getD 0 []).length).all λk=> !Qk m t ab key k&&(db ab.length).all λi=> !Ql m t ab key k i
theorem zg (m:aL) (t ab:lL) (key:lI) (ho:lW m t ab=true) (hc:∀x∈ab,(x.length:Int)=m.ae/\∀y∈x,0<=y/\y<m.ak):lW m t (ab++[key])=nR m t ab key:=by
 have ho:=(Gp m t ab).1 ho;refine Bool.eq_iff_iff.2 ?_;rw [Gp];unfold nR;simp only [uq4,List.mem_range,uq0,Bool.not_eq_true'];have hlen:(ab++[key]).length=ab.length+1:=by simp
 have ka:(ab++[key]).getD ab.length []=key:=by simp [uq7]
 have M9:∀i,i<ab.length->(ab++[key]).getD i []=ab.getD i []:=λi hi=>by rw [uq7,List.getElem?_append_left hi,←uq7]
 have e1:∀k,zf m t (ab++[key]) ab.length k=Qk m t ab key k:=by
  intro k;unfold zf Qk;rw [ka,Cj];by_cases hz:((t.getD ab.length []).getD k 0==0)=true
  . have:((t.getD ab.length []).getD k 0==1)=false:=by
     have:=beq_iff_eq.1 hz;rw [this];rfl
    rw [this,if_neg (by simp)]
  have hz:((t.getD ab.length []).getD k 0==0)=false:=by simpa using hz
  rw [hz,uq1,uq1]
 have e2:∀i,i<ab.length->∀k,k<(t.getD 0 []).length->zf m t (ab++[key]) i k=Ql m t ab key k i:=by
  intro i hi k hk;have hold:=ho i hi k hk;unfold zf at hold;unfold zf Ql;rw [M9 i hi,Cj];have hci:ab.getD i []∈ab:=by rw [uq7,uq8 hi];exact uq9 hi
  obtain ⟨hl,hd⟩:=hc _ hci;by_cases h1:((t.getD ab.length []).getD k 0==1)=true
  . rw [if_pos h1,h1,uq3,IV m _ key _ _ (by omega) hd];rfl
  have h1':((t.getD ab.length []).getD k 0==1)=false:=by simpa using h1
  rw [if_neg h1,h1',uq1,uq1];exact hold
 constructor
 . intro h k hk;refine ⟨by rw [←e1];exact h _ (by omega) k hk,λi hi=>by rw [←e2 i hi k hk];exact h i (by omega) k hk⟩
 intro h i hi k hk;by_cases e:i=ab.length
 . subst e;rw [e1];exact (h k hk).1
 rw [e2 i (by omega) k hk];exact (h k hk).2 i (by omega)
theorem fD (t:lL) (h:t.length<=1000) (h2:∀x∈t,0<x.length/\x.length<=1048576):Fn pG 115 [aQ t] true (· =aQ t):=by
 refine Fn.av 20 [.tmp 2] func115 (hv:= ?_);simp -dsimp -implicitDefEqProofs only [go_sem];refine aj.Zc [7,8] [15,16,17] [6] t.length (λ_=>True) (λi=>[(9,eI i),(3,.ref 6 0 0 i)]) (λi=>[(6,.row 0 ⟨1,false⟩ true ((t.take i).map aP))]) trivial ?_ rfl (λi hi _=> ?_) (λ_=> ?_)
 . refine .here ?_;simp -dsimp -implicitDefEqProofs only [go_sem]
 . have gi:=get_some hi;have li:=aE hi;have hx:=h2 _ (uq9 hi);have ho:=yA t[i] hx.2;have e2:(t.take (i+1)).map aP=(t.take i).map aP++[aP t[i]]:=(by rw [eX hi,cP];rfl);have hln:(t.take i).length=i:=(by simp;omega);rw [e2];clear e2;generalize t.take i=F at*;generalize t[i]=x at*;have tF:(F.map aP).take i=F.map aP:=cm (by simp;omega);simp -dsimp -implicitDefEqProofs only [pz,Nat.reduceBEq,Nat.reduceDiv,Nat.reduceAdd,↓reduceIte,Nat.reduceEqDiff];refine aj.Vb rfl ?_;simp -dsimp -implicitDefEqProofs only [go_sem,li];refine aj.Vb rfl ?_;simp -dsimp -implicitDefEqProofs only [go_sem];refine aj.XZ ?_;refine aj.Vd ?_;refine aj.Vb rfl ?_;simp -dsimp -implicitDefEqProofs only [go_sem,gi];((with_reducible and_intros);all_goals try omega);refine aj.cut 3 rfl ?_;simp -dsimp -implicitDefEqProofs only [ft,dc,uq5,uq6];simp -dsimp -implicitDefEqProofs only [go_sem];refine aa ho ?_;simp -dsimp -implicitDefEqProofs only [go_sem];refine nu.known 15 16000 0 x.length ⟨1,false⟩ _ rfl (by decide) rfl (by simp) hx.1 (by decide) λu=> ?_;simp -dsimp -implicitDefEqProofs only [go_sem,tF];((with_reducible and_intros);all_goals try omega);refine aj.vc rfl ?_;simp -dsimp -implicitDefEqProofs only [go_sem];((with_reducible and_intros);all_goals try ((refine ⟨?_,?_⟩<;>omega)));refine ym.back 6 1 i 16000 0 _ _ _ u (by decide) rfl (by simp [hln]) rfl (.here ?_);rw [show (F.map aP++[AV.val u]).set i (.arr ⟨1,false⟩ (x.map eI))=F.map aP++[aP x] by rw [List.set_append_right _ _ (by simp;omega)];simp [hln]];simp -dsimp -implicitDefEqProofs only [go_sem];all_goals try exact rfl
 refine aj.vc rfl ?_;rw [e7];simp -dsimp -implicitDefEqProofs only [go_sem,ay];all_goals first|(simp;done)|skip
theorem Gq {t ab:lL} {k r:Nat} (h1:((t.getD r []).getD k 0==1)=true):∀n,r<n->ab.getD r []∈jr t ab k n
 |0,h=>by omega
 |n+1,h=>by
  rw [gJ];by_cases e:r=n
  . subst e;rw [if_pos h1];simp
  have:=Gq h1 (ab:=ab) n (by omega);split
  . exact List.mem_append_left _ this
  exact this
theorem MS {xs:lI} {n:Int} (hp:xs.Pairwise (· < ·)) (hb:∀x∈xs,0<=x/\x<n):lQ xs n=true:=by
 unfold lQ;rw [uq4];intro i hi;have hi:=List.mem_range.1 hi;have h1:=hb _ (uq9 hi);have e:xs.getD i 0=xs[i]:=by simp [uq7,hi]
 simp only [eV,uq0,Bool.or_eq_true,decide_eq_true_eq,beq_iff_eq];rw [e];refine ⟨h1,?_⟩;by_cases h0:i=0
 . exact .inl h0
 have hi':i-1<xs.length:=by omega
 have e':xs.getD (i-1) 0=xs[i-1]:=by simp [uq7,hi']
 rw [e'];exact .inr (List.pairwise_iff_getElem.1 hp (i-1) i hi' hi (by omega))
theorem zh {m:aL} {t ab:lL} (hs:eW m t=true) (hc:dW m t ab=true) {k:Nat} (hk:k<(t.getD 0 []).length):fu m (bO m t ab k)=true:=by
 have lu:=lS hs;have ⟨⟨n1,n2⟩,n3,n4⟩:=aI lu;obtain ⟨c1,c2⟩:=dJ hc;simp only [eW,uq0] at hs;have hd:=hs.2;unfold iE at hd;rw [uq4] at hd;have hd:=hd k (List.mem_range.2 hk);unfold eK at hd;obtain ⟨row,GZ,hr1⟩:=List.any_eq_true.1 hd;obtain ⟨r,hr,rfl⟩:=List.getElem_of_mem GZ;have hrt:t.getD r []=t[r]:=by simp [uq7,hr]
 have hin:=Gq (ab:=ab) (t:=t) (k:=k) (r:=r) (by rw [hrt];exact hr1) ab.length (by omega);have hrc:r<ab.length:=by omega
 have hcr:ab.getD r []=ab[r]:=by simp [uq7,hrc]
 rw [hcr] at hin;obtain ⟨k1,k2⟩:=gv (c2 _ (uq9 hrc));simp only [fu,uq0,beq_iff_eq,uq4];refine ⟨by rw [kU];omega,λx hx=> ?_⟩;simp only [bO,kg,List.mem_map,List.mem_range] at hx;obtain ⟨i,hi,rfl⟩:=hx;simp only [cJ,uq0,decide_eq_true_eq];have hil:i<ab[r].length:=by omega
 have hb:=k2 _ (uq9 hil);constructor
 . have hm:=qY (p:=j1 (jr t ab k ab.length) i) (n:=m.ak.toNat) (j:=ab[r][i].toNat) (by omega) (by
    unfold j1;rw [List.any_eq_true];refine ⟨ab[r],hin,?_⟩;rw [beq_iff_eq,show ab[r].getD i 0=ab[r][i] by simp [uq7,hil]]
    omega)
   intro h0;have:jF m (jr t ab k ab.length) i=[]:=List.eq_nil_of_length_eq_zero h0;unfold jF at this;rw [this] at hm;cases hm
 refine MS (sP _ _) λx hx=> ?_;obtain ⟨j,hj,rfl,_⟩:=sJ hx;omega
def j6 (p:lI):lU:=Lib.join (p.map itoa) [43]
def qa (ps:lL):lU:=Lib.join (ps.map j6) [32]
theorem MT {p:lI} {k:Nat} (hk:k<p.length):j6 (p.take (k+1))=if k=0 then itoa p[k] else j6 (p.take k)++([43]++itoa p[k]):=by
 rw [j6,eX hk,cP,gW,rn];by_cases hz:k=0
 . subst hz;simp
 rw [if_neg hz,if_neg]
 . rfl
 intro e2;have:=congrArg List.length e2;rw [b6,List.length_take,bI] at this;omega
theorem MU {ps:lL} {i:Nat} (hi:i<ps.length):qa (ps.take (i+1))=if i=0 then j6 ps[i] else qa (ps.take i)++([32]++j6 ps[i]):=by
 rw [qa,eX hi,cP,gW,rn];by_cases hz:i=0
 . subst hz;simp
 rw [if_neg hz,if_neg]
 . rfl
 intro e2;have:=congrArg List.length e2;rw [b6,List.length_take,bI] at this;omega
def Gr (ps:lL):Prop:=ps.length<=8/\∀p∈ps,p.length<=16/\∀x∈p,0<=x/\x<=9
theorem Gs {p:lI} (h:p.length<=16) (hx:∀x∈p,0<=x/\x<=9):(j6 p).length<=352:=by
 have h1:=tX (p.map itoa) [43] 21 (by
  intro y hy;obtain ⟨x,hxm,rfl⟩:=List.mem_map.1 hy
  exact bS (by have:=hx x hxm;unfold jx;omega))
 rw [b6] at h1;simp only [List.length_singleton] at h1;unfold j6;omega
theorem Gt {ps:lL} (h:Gr ps):(qa ps).length<=2824:=by
 have h1:=tX (ps.map j6) [32] 352 (by
  intro y hy;obtain ⟨p,hp,rfl⟩:=List.mem_map.1 hy
  exact Gs (h.2 p hp).1 (h.2 p hp).2)
 rw [b6] at h1;simp only [List.length_singleton] at h1;have:=h.1;unfold qa;omega
theorem IW {ps:lL} (h:Gr ps) (i:Nat):Gr (ps.take i):=⟨by have:=h.1;simp;omega,λp hp=>h.2 p (fq hp)⟩
theorem J' {m:aL} {l:lL} (hm:aW m=true) (hl:fu m l=true) (h8:∀x∈l,x.length<=8):Gr (pins m l):=by have hn:=aI hm;simp only [fu,uq0,beq_iff_eq,uq4] at hl;refine ⟨by rw [pins,b6];omega,λp hp=> ?_⟩;obtain ⟨s,hs,rfl⟩:=List.mem_map.1 hp;obtain ⟨h1,h2⟩:=Iz (hl.2 s hs);have:=h8 s hs;exact ⟨by rw [SU h1];omega,λx hx=>by have:=h2 x hx;omega⟩
set_option maxHeartbeats 4000000 in
theorem Gu (m:aL) (l:lL) (hm:aW m=true) (hl:fu m l=true) (h8:∀x∈l,x.length<=8):Fn pG 119 [ky m,sM l] true (· = .aX [eS (qa (pins m l)),eI 0]):=by
 refine Fn.av 34 [.tmp 4,.tmp 5] func119 (hv:= ?_);have hll:l.length<=8:=by have hn:=aI hm;simp only [fu,uq0,beq_iff_eq] at hl;omega
 have hc:=FN m [l] (by simp) (λx hx=>by simp only [List.mem_singleton] at hx;subst hx;exact ⟨by omega,λy hy=>by have:=h8 y hy;omega⟩);rw [FM,C_,hm,hl] at hc;have hc:Fn pG 163 [ky m,.arr ⟨1,true⟩ [sM l]] true (· =eI 0):=hc;have hp:=PS m l hm hl (λx hx=>by have:=h8 x hx;omega);have hok:=J' hm hl h8;have hj:=λ(i:Nat) (hi:i<(pins m l).length)=>tY [43] (by simp) (pins m l)[i] (by have:=(hok.2 _ (uq9 hi)).1;omega) (λx hx=>by have:=(hok.2 _ (uq9 hi)).2 x hx;unfold jx;omega);generalize pins m l=ps at*;have hps:=hok.1;have e:((0:Int) != 0)=false:=rfl;simp -dsimp -implicitDefEqProofs only [go_sem];refine aa hc ?_;simp -dsimp -implicitDefEqProofs only [go_sem,e];refine au hp (by simp [ax,ao,aq,aF]) ?_;simp -dsimp -implicitDefEqProofs only [go_sem];refine aj.up [20,21] [28,29,30] [17] ps.length (λ_=>True) (λi=>[(7,.ref 17 0 0 i),(22,eI i)]) (λi=>[(17,.row 0 ⟨1,false⟩ true (((ps.take i).map j6).map eS))]) trivial ?_ rfl (λi hi _=> ?_) (λ_=> ?_)
 . simp -dsimp -implicitDefEqProofs only [go_sem]
 . have gi:=get_some hi;have hji:=hj i hi;have htk:(ps.take (i+1)).map j6=(ps.take i).map j6++[j6 ps[i]]:=(by rw [eX hi,cP];rfl);have hln:((ps.take i).map j6).length=i:=(by simp;omega);rw [htk,cP,gW];clear htk hj;generalize (ps.take i).map j6=K at*;rw [show Lib.join (ps[i].map itoa) [43]=j6 ps[i] from rfl] at hji;generalize ps[i]=p at*;have tK:dD i (K.map eS)=K.map eS:=cm (by simp [hln]);simp -dsimp -implicitDefEqProofs only [go_sem,aE hi,gi];((with_reducible and_intros);all_goals try omega);refine aa hji ?_;simp -dsimp -implicitDefEqProofs only [go_sem,tK];((with_reducible and_intros);all_goals try first|omega|(refine ⟨?_,?_⟩<;>omega)|exact rfl)
 have hpl:=Gt hok;rw [e7];have e2:dD ps.length (bm eS (bm j6 ps))=bm eS (bm j6 ps):=cm (by simp);have hJ:=PK (ps.map j6) [32] (by simp;omega) (by unfold qa at hpl;omega);simp -dsimp -implicitDefEqProofs only [go_sem,ay,e2];refine aa hJ ?_;simp -dsimp -implicitDefEqProofs only [go_sem];all_goals (first|exact rfl|skip)
set_option maxHeartbeats 4000000 in
theorem MV (ps:lL) (h:Gr ps):Fn pG 147 [aQ ps] true (· =eS (qa ps)):=by
 refine Fn.av 40 [.tmp 2] func147 (hv:= ?_);have hps:=h.1;simp -dsimp -implicitDefEqProofs only [go_sem];refine aj.up [0] [8,21,37] [] ps.length (λ_=>True) (λi=>[(3,eS (qa (ps.take i))),(4,eI i)]) (λ_=>[]) trivial ?_ rfl (λi hi _=> ?_) (λ_=> ?_)
 . simp -dsimp -implicitDefEqProofs only [go_sem];all_goals first|rfl|skip
 . have gi:=get_some hi;have hsl:=Gt (IW h i);obtain ⟨hp1,hp2⟩:=h.2 _ (uq9 hi);obtain ⟨base,qE,hbl⟩:∃base:lU,base=(if i=0 then [] else qa (ps.take i)++[32])/\base.length<=2825:=⟨_,rfl,by split<;>simp;omega⟩;have zW:qa (ps.take (i+1))=base++j6 ps[i]:=by
    rw [MU hi,qE];split
    . rfl
    rw [List.append_assoc]
   rw [zW];clear zW;have inner:∀(p:lI),p.length<=16->(∀x∈p,0<=x/\x<=9)->∀k,k<=p.length->(j6 (p.take k)).length<=352:=λp q1 q2 k hk=>Gs (by simp;omega) λx hx=>q2 x (fq hx);have hin:=inner _ hp1 hp2;clear inner;obtain ⟨o0,ho0⟩:∃o0:lU,qa (ps.take i)=o0:=⟨_,rfl⟩;rw [ho0] at qE hsl ⊢;generalize ps[i]=p at*;simp -dsimp -implicitDefEqProofs only [pz,↓reduceIte,Nat.reduceEqDiff];rcases Nat.eq_zero_or_pos i with h0|h0
   case' inl=>
    have d0:decide ((i:Int)>0)=false:=dF (by omega);have hb0:o0=base:=by rw [qE,if_pos h0,←ho0,h0];rfl
    rw [hb0];simp -dsimp -implicitDefEqProofs only [go_sem,aE hi,d0]
   case' inr=>
    have d0:decide ((i:Int)>0)=true:=dT (by omega);have hb0:o0++[32]=base:=(by rw [qE,if_neg (by omega)]);simp -dsimp -implicitDefEqProofs only [go_sem,aE hi,d0,hb0]
   all_goals
    ((with_reducible and_intros);all_goals try omega);refine aj.up [0,4] [21,37] [] p.length (λ_=>True) (λk=>[(3,eS (base++j6 (p.take k))),(5,eI k)]) (λ_=>[]) trivial ?_ rfl (λk hk _=> ?_) (λ_=> ?_)
    . simp -dsimp -implicitDefEqProofs only [go_sem];all_goals first|(simp [j6,join_nil];done)|skip
    . have gk:=get_some hk;have hd:=cC p[k] (by have:=hp2 _ (uq9 hk);omega);have hil:=bS (v:=p[k]) (by have:=hp2 _ (uq9 hk);unfold jx;omega);have hk1:=hin k (by omega);rw [MT hk];rcases Nat.eq_zero_or_pos k with g0|g0
      . have q0:decide ((k:Int)>0)=false:=dF (by omega);have ez:j6 (p.take k)=[]:=(by rw [g0];rfl);rw [if_pos g0,ez,List.append_nil];generalize p[k]=x at*;simp -dsimp -implicitDefEqProofs only [go_sem,aE hk,gi,gk,q0];((with_reducible and_intros);all_goals try omega);refine aa hd ?_;simp -dsimp -implicitDefEqProofs only [go_sem];((with_reducible and_intros);all_goals try first|omega|(refine ⟨?_,?_⟩<;>omega)|exact rfl)
      have q0:decide ((k:Int)>0)=true:=dT (by omega);rw [if_neg (by omega)];generalize j6 (p.take k)=J at*;generalize p[k]=x at*;simp -dsimp -implicitDefEqProofs only [go_sem,aE hk,gi,gk,q0];((with_reducible and_intros);all_goals try omega);refine aa hd ?_;simp -dsimp -implicitDefEqProofs only [go_sem];((with_reducible and_intros);all_goals try first|omega|(refine ⟨?_,?_⟩<;>omega)|exact rfl);all_goals first|(simp;done)|(first|omega|(refine ⟨?_,?_⟩<;>omega)|exact rfl|(simp;done)|skip)
    simp -dsimp -implicitDefEqProofs only [go_sem,gi,ay,e7];((with_reducible and_intros);all_goals try first|omega|(refine ⟨?_,?_⟩<;>omega)|exact rfl)
 simp -dsimp -implicitDefEqProofs only [go_sem,ay,e7]
theorem Gv (m:aL) (l:lL) (hm:aW m=true) (hl:fu m l=true) (h8:∀x∈l,x.length<=8):Fn pG 102 [ky m,sM l] true (· = .aX [eS (qa (pins m l)),eI 0]):=by
 refine Fn.av 14 [.tmp 4,.tmp 5] func102 (hv:= ?_);have hll:l.length<=8:=by have hn:=aI hm;simp only [fu,uq0,beq_iff_eq] at hl;omega
 have hc:=L' m l (by omega) (λy hy=>by have:=h8 y hy;omega);rw [C_,hm,hl] at hc;have hp:=Mq m l hm hl (λx hx=>by have:=h8 x hx;omega);have ht:=MV (pins m l) (J' hm hl h8);generalize pins m l=ps at*;simp -dsimp -implicitDefEqProofs only [go_sem];refine aa hc ?_;simp -dsimp -implicitDefEqProofs only [go_sem];refine au hp (by simp [ax,ao,aq,aF]) ?_;simp -dsimp -implicitDefEqProofs only [go_sem];refine aa ht ?_;simp -dsimp -implicitDefEqProofs only [go_sem]
theorem MW (m m2:Mem) (x:AV) (sh:Sh) (xs:lA) (i j:Nat):vT m m2 x (.bo sh xs i j)=jM m m2 x (.bo sh xs i j):=by cases x<;>rfl
theorem IX (m m2:Mem) (sh:Sh) (xs ys:lA) (i j:Nat):jM m m2 (.bo sh xs i j) (.bo sh ys i j)=(xs=ys):=by simp [jM]
attribute [go_sem ↓] MW IX
theorem vJ (l:lL) (key c:lI) (h0:c.length<=l.length) (hk:c.length<=key.length) (h1:l.length<=1048576) (h2:∀x∈l,x.length<=1048576):Fn pG 281 [sM l,aP key,aP c] true (· =eB (nQ l key c)):=by
 refine Fn.av 33 [.tmp 6] func281 (hv:= ?_);simp -dsimp -implicitDefEqProofs only [go_sem];refine aj.up [1,3,9,10] [29] [] c.length (λi=>((db i).all λi=>(c.getD i 0==key.getD i 0)||has (l.getD i []) (c.getD i 0))=true) (λi=>[(11,eI i)]) (λ_=>[]) rfl ?_ rfl (λi hi hI=> ?_) (λhI=> ?_)
 . simp -dsimp -implicitDefEqProofs only [go_sem]
 . have gi:=get_some (show i<l.length by omega);have gk:=get_some (show i<key.length by omega);have gc:=get_some hi;have li:=aE hi;have hp:((c.getD i 0==key.getD i 0)||has (l.getD i []) (c.getD i 0))=((c[i]==key[i])||has l[i] c[i]):=(by simp [uq7,hi,show i<l.length by omega,show i<key.length by omega]);have hq:=qT l[i] c[i] (h2 _ (uq9 _));have no:((c[i]==key[i])||has l[i] c[i])=false->nQ l key c=false:=λh=>b7 hi (by rw [hp];exact h);have yes:((c[i]==key[i])||has l[i] c[i])=true->((db (i+1)).all λi=>(c.getD i 0==key.getD i 0)||has (l.getD i []) (c.getD i 0))=true:=λh=>by rw [bh,hI,hp,h];rfl
   clear hp hI;generalize l[i]=x at*;generalize c[i]=z at*;generalize key[i]=y at*;rcases he:(z==y) with _|_
   . have e1:(z != y)=true:=(by simp only [bne,he];rfl);rw [he,Bool.false_or] at no yes;simp -dsimp -implicitDefEqProofs only [go_sem,gi,gc,gk,li,e1];((with_reducible and_intros);all_goals try omega);refine aa hq ?_;rcases hb:has x z with _|_
     . rw [no hb];simp -dsimp -implicitDefEqProofs only [go_sem]
     simp -dsimp -implicitDefEqProofs only [go_sem];refine ⟨⟨by omega,by omega⟩,?_,rfl⟩;rw [←List.range_succ];exact yes hb
   have e1:(z != y)=false:=(by simp only [bne,he];rfl);rw [he,Bool.true_or] at yes;simp -dsimp -implicitDefEqProofs only [go_sem,gc,gk,li,e1];((with_reducible and_intros);all_goals try first|omega|(refine ⟨?_,?_⟩<;>omega)|exact rfl);rw [←List.range_succ];exact yes rfl
 simp -dsimp -implicitDefEqProofs only [go_sem,ay];rw [show nQ l key c=true from hI]
def ot (m:aL) (t ab:lL):lA:=[.bo ⟨1,false⟩ [p9 (az m t ab (t.getD 0 []).length)] 0 0,.bo ⟨1,false⟩ [aP (t.getD ab.length [])] 0 0,.bo ⟨1,false⟩ [aQ ab] 0 0,.bo ⟨6,true⟩ [jQ m t] 0 0]
theorem Qm (m:aL) (t ab:lL) (key:lI) (hm:aW m=true) (h0:t.length<=1000) (h1:ab.length<t.length) (hk:∀i (hi:i<t.length),t[i].length=(t.getD 0 []).length) (hd:(t.getD 0 []).length<=1000) (hc:∀x∈ab,(x.length:Int)=m.ae)
 (V4:(key.length:Int)=m.ae):Fn pG 280 (aP key::ot m t ab) true (· =eB (nR m t ab key)):=by
 have ⟨⟨n1,n2⟩,n3,n4⟩:=aI hm;unfold ot;refine Fn.av 59 [.tmp 6] func280 (hv:= ?_);have hll:=dM m t ab (t.getD 0 []).length;have GZ:(t.getD ab.length []).length=(t.getD 0 []).length:=by rw [uq7,uq8 h1];exact hk _ h1
 unfold nR;have hgl:=λk (h:k<(t.getD 0 []).length)=>jS m t ab h;have hL:=λk=>kU m t ab k;have hLs:=λk=>iG m t ab k;have hb1:∀k,Qk m t ab key k=(((t.getD ab.length []).getD k 0==0)&&dV (bO m t ab k) key):=λk=>rfl;have hb2:∀k i,Ql m t ab key k i=((((t.getD ab.length []).getD k 0==1)&&((t.getD i []).getD k 0==0))&&nQ (bO m t ab k) key (ab.getD i [])):=λk i=>rfl;generalize Qk m t ab key=b1 at*;generalize Ql m t ab key=b2 at*;generalize bO m t ab=LA at*;generalize az m t ab (t.getD 0 []).length=ls at*;generalize t.getD ab.length []=row at*;generalize hdo:(t.getD 0 []).length=D at*;simp -dsimp -implicitDefEqProofs only [go_sem];refine aj.up [0,2,3,4,11,12] [8,26,29,55] [] D (λk=>((db k).all λk=> !b1 k&&(db ab.length).all λi=> !b2 k i)=true) (λk=>[(13,eI k)]) (λ_=>[]) rfl ?_ rfl (λk hkD hI=> ?_) (λhI=> ?_)
 . simp -dsimp -implicitDefEqProofs only [go_sem]
 . have hkr:k<row.length:=(by omega);have gl:=hgl k hkD;have gr:=get_some hkr;have lk:decide ((k:Int)<(ls.length:Int))=true:=dT (by omega);have hq:=Da (LA k) key (by have:=hL k;omega) (by have:=hL k;omega) (λx hx=>by have:=hLs k x hx;omega);have hL1:=hL k;have XH:=hLs k;have e1:=hb1 k;have e2:=hb2 k;have no:(!b1 k&&(db ab.length).all λi=> !b2 k i)=false->((db D).all λk=> !b1 k&&(db ab.length).all λi=> !b2 k i)=false:=λh=>b7 hkD h;have yes:(!b1 k&&(db ab.length).all λi=> !b2 k i)=true->((db (k+1)).all λk=> !b1 k&&(db ab.length).all λi=> !b2 k i)=true:=λh=>by rw [bh,hI,h];rfl
   rw [show row.getD k 0=row[k] by simp [uq7,hkr]] at e1 e2;clear hI hb1 hb2 hgl hL hLs;generalize LA k=L at*;generalize row[k]=z at*;generalize ((db D).all λk=> !b1 k&&(db ab.length).all λi=> !b2 k i)=R at*;generalize ((db (k+1)).all λk=> !b1 k&&(db ab.length).all λi=> !b2 k i)=R1 at*;generalize b1 k=c1 at*;generalize b2 k=c2 at*;have inner:∀Q0:Prop,True:=λ_=>trivial;rcases hz0:(z==0) with _|_
   . rw [hz0,uq1] at e1;subst e1;simp -dsimp -implicitDefEqProofs only [go_sem,gl,gr,lk,hz0];((with_reducible and_intros);all_goals try omega);refine aj.up [0,2,3,4,7,8,11,12,13,28,29] [55] [] ab.length (λi=>((db i).all λi=> !c2 i)=true) (λi=>[(30,eI i)]) (λ_=>[]) rfl ?_ rfl (λi hi hJ=> ?_) (λhJ=> ?_)
     . simp -dsimp -implicitDefEqProofs only [go_sem]
     . have hit:i<t.length:=(by omega);have hki:k<t[i].length:=(by rw [hk i hit];exact hkD);have git:=get_some hit;have gik:=get_some hki;have gci:=get_some hi;have lci:=aE hi;have e3:=e2 i;rw [show (t.getD i []).getD k 0=t[i][k] by simp [uq7,hit,hki],show ab.getD i []=ab[i] by simp [uq7,hi]] at e3;have hcl:=hc _ (uq9 hi);have hq2:=vJ L key ab[i] (by omega) (by omega) (by omega) (λx hx=>by have:=XH x hx;omega);have yes2:c2 i=false->((db (i+1)).all λi=> !c2 i)=true:=λh=>by rw [bh,hJ,h];rfl
       have no2:c2 i=true->R=false:=λh=>no (by rw [Bool.not_false,uq3];exact b7 hi (by rw [h];rfl));generalize ((db (i+1)).all λi=> !c2 i)=R2 at*;generalize c2 i=c3 at*;clear hJ;generalize ab[i]=cc at*;generalize t[i]=ti at*;generalize ti[k]=y at*;rcases hz1:(z==1) with _|_
       . rw [hz1,uq1,uq1] at e3;simp -dsimp -implicitDefEqProofs only [go_sem,gci,lci,gr,hz1];((with_reducible and_intros);all_goals try first|omega|(refine ⟨?_,?_⟩<;>omega)|exact rfl);all_goals first|exact yes2 e3|skip
       rw [hz1,uq3] at e3;rcases hy:(y==0) with _|_
       . rw [hy,uq1] at e3;simp -dsimp -implicitDefEqProofs only [go_sem,gci,lci,gr,hz1,git,gik,hy];((with_reducible and_intros);all_goals try first|omega|(refine ⟨?_,?_⟩<;>omega)|exact rfl);all_goals first|exact yes2 e3|skip
       rw [hy,uq3] at e3;simp -dsimp -implicitDefEqProofs only [go_sem,gci,lci,gr,hz1,git,gik,hy];((with_reducible and_intros);all_goals try omega);refine aa hq2 ?_;rcases hw:nQ L key cc with _|_
       . rw [hw] at e3;simp -dsimp -implicitDefEqProofs only [go_sem];((with_reducible and_intros);all_goals try first|(refine ⟨?_,?_⟩<;>omega)|exact rfl);all_goals first|exact yes2 e3|skip
       rw [hw] at e3;rw [no2 e3];simp -dsimp -implicitDefEqProofs only [go_sem]
     simp -dsimp -implicitDefEqProofs only [go_sem,ay];((with_reducible and_intros);all_goals try first|(refine ⟨?_,?_⟩<;>omega)|exact rfl);all_goals first|exact yes (by rw [Bool.not_false,uq3];exact hJ)|skip
   rw [hz0,uq3] at e1;rcases hop:dV L key with _|_
   . rw [hop] at e1 hq;subst e1;simp -dsimp -implicitDefEqProofs only [go_sem,gl,gr,lk,hz0];((with_reducible and_intros);all_goals try omega);refine aa hq ?_;simp -dsimp -implicitDefEqProofs only [go_sem];refine aj.up [0,2,3,4,7,8,11,12,13,28,29] [55] [] ab.length (λi=>((db i).all λi=> !c2 i)=true) (λi=>[(30,eI i)]) (λ_=>[]) rfl ?_ rfl (λi hi hJ=> ?_) (λhJ=> ?_)
     . simp -dsimp -implicitDefEqProofs only [go_sem]
     . have hit:i<t.length:=(by omega);have hki:k<t[i].length:=(by rw [hk i hit];exact hkD);have git:=get_some hit;have gik:=get_some hki;have gci:=get_some hi;have lci:=aE hi;have e3:=e2 i;rw [show (t.getD i []).getD k 0=t[i][k] by simp [uq7,hit,hki],show ab.getD i []=ab[i] by simp [uq7,hi]] at e3;have hcl:=hc _ (uq9 hi);have hq2:=vJ L key ab[i] (by omega) (by omega) (by omega) (λx hx=>by have:=XH x hx;omega);have yes2:c2 i=false->((db (i+1)).all λi=> !c2 i)=true:=λh=>by rw [bh,hJ,h];rfl
       have no2:c2 i=true->R=false:=λh=>no (by rw [Bool.not_false,uq3];exact b7 hi (by rw [h];rfl));generalize ((db (i+1)).all λi=> !c2 i)=R2 at*;generalize c2 i=c3 at*;clear hJ;generalize ab[i]=cc at*;generalize t[i]=ti at*;generalize ti[k]=y at*;rcases hz1:(z==1) with _|_
       . rw [hz1,uq1,uq1] at e3;simp -dsimp -implicitDefEqProofs only [go_sem,gci,lci,gr,hz1];((with_reducible and_intros);all_goals try first|omega|(refine ⟨?_,?_⟩<;>omega)|exact rfl);all_goals first|exact yes2 e3|skip
       rw [hz1,uq3] at e3;rcases hy:(y==0) with _|_
       . rw [hy,uq1] at e3;simp -dsimp -implicitDefEqProofs only [go_sem,gci,lci,gr,hz1,git,gik,hy];((with_reducible and_intros);all_goals try first|omega|(refine ⟨?_,?_⟩<;>omega)|exact rfl);all_goals first|exact yes2 e3|skip
       rw [hy,uq3] at e3;simp -dsimp -implicitDefEqProofs only [go_sem,gci,lci,gr,hz1,git,gik,hy];((with_reducible and_intros);all_goals try omega);refine aa hq2 ?_;rcases hw:nQ L key cc with _|_
       . rw [hw] at e3;simp -dsimp -implicitDefEqProofs only [go_sem];((with_reducible and_intros);all_goals try first|(refine ⟨?_,?_⟩<;>omega)|exact rfl);all_goals first|exact yes2 e3|skip
       rw [hw] at e3;rw [no2 e3];simp -dsimp -implicitDefEqProofs only [go_sem]
     simp -dsimp -implicitDefEqProofs only [go_sem,ay];((with_reducible and_intros);all_goals try first|(refine ⟨?_,?_⟩<;>omega)|exact rfl);all_goals first|exact yes (by rw [Bool.not_false,uq3];exact hJ)|skip
   rw [hop] at e1 hq;subst e1;rw [no rfl];simp -dsimp -implicitDefEqProofs only [go_sem,gl,gr,lk,hz0];((with_reducible and_intros);all_goals try omega);refine aa hq ?_;simp -dsimp -implicitDefEqProofs only [go_sem]
 have lD:decide ((D:Int)<(ls.length:Int))=false:=by rw [hll];simp
 simp -dsimp -implicitDefEqProofs only [go_sem,lD];all_goals first|(rw [hI])|skip
theorem Gw (m:aL) (t ab:lL) (hm:aW m=true) (h0:t.length<=1000) (h1:ab.length<t.length) (hk:∀i (hi:i<t.length),t[i].length=(t.getD 0 []).length) (hd:(t.getD 0 []).length<=1000)
 (hc:∀x∈ab,(x.length:Int)=m.ae/\∀y∈x,0<=y/\y<m.ak):Fn pG 270 [jQ m t,aQ ab] false (λr=>r= .cn 280 (ot m t ab)):=by
 refine Fn.Ph 17 [.tmp 4] func270 (hv:= ?_);have hp:=gu m t ab hm h0 (by omega) (by omega) hk hd hc;have gr:=get_some h1;have er:t[ab.length]=t.getD ab.length []:=by rw [uq7,gr];rfl
 rw [er] at gr;unfold ot;generalize az m t ab (t.getD 0 []).length=ls at*;generalize t.getD ab.length []=row at*;simp -dsimp -implicitDefEqProofs only [go_sem];refine aj.draw mixed rfl ?_;simp -dsimp -implicitDefEqProofs only [go_sem];refine aH hp (by simp [ax,ao,aq,aF]) ?_;simp -dsimp -implicitDefEqProofs only [go_sem,gr];((with_reducible and_intros);all_goals try first|omega|exact rfl);refine ⟨_,rfl,⟨_,rfl,rfl,λx hx=> ?_,by simp,rfl⟩,⟨_,rfl,rfl,λx hx=> ?_,by simp,rfl⟩,⟨_,rfl,rfl,λx hx=> ?_,by simp,rfl⟩,⟨_,rfl,rfl,λx hx=> ?_,by simp,rfl⟩,trivial⟩
 . rw [List.mem_singleton] at hx;subst hx;exact ⟨rfl,rfl⟩
 . rw [List.mem_singleton] at hx;subst hx;exact ⟨rfl,rfl⟩
 . rw [List.mem_singleton] at hx;subst hx;exact ⟨rfl,rfl⟩
 simp only [List.mem_cons,List.not_mem_nil,or_false] at hx;rcases hx with rfl|rfl|rfl|rfl|rfl|rfl<;>exact ⟨rfl,rfl⟩
theorem MX (n:Int):Fn pG 253 [eI n] true (· =eB (bx n 0 4000)):=by refine Fn.av 5 [.tmp 2] func253 (hv:= ?_);have hw:=kT n 0 4000;simp -dsimp -implicitDefEqProofs only [go_sem];refine aa hw ?_;simp -dsimp -implicitDefEqProofs only [go_sem]
theorem Dp (m:aL) (t ab:lL) (hm:aW m=true) (h0:t.length<=1000) (h1:ab.length<=t.length) (h2:0<t.length) (hk:∀i (hi:i<t.length),t[i].length=(t.getD 0 []).length) (hd:(t.getD 0 []).length<=1000)
 (hc:∀x∈ab,(x.length:Int)=m.ae/\∀y∈x,0<=y/\y<m.ak):Fn pG 254 [jQ m t,aQ ab] true (· =eB (lW m t ab)):=by
 refine Fn.av 10 [.tmp 4] func254 (hv:= ?_);have hp:=nH m t ab hm h0 h1 h2 hk hd hc;unfold lW;generalize gS m t ab=F at*;simp -dsimp -implicitDefEqProofs only [go_sem];refine au hp (by simp [ax,ao,aq,aF]) ?_;simp -dsimp -implicitDefEqProofs only [go_sem]
theorem Gx (m:aL) (t:lL) (h:t.length<=1048576) (h2:∀x∈t,x.length<=1048576):Fn pG 252 [jQ m t,.val (.slice none 0 0)] true (· =eI (if eW m t=true then 0 else 1)):=by
 refine Fn.av 21 [.tmp 4] func252 (hv:= ?_);have hs:=vt m t h h2;rcases hb:eW m t with _|_
 . rw [hb] at hs;rw [if_neg (by simp)];simp -dsimp -implicitDefEqProofs only [go_sem];refine aa hs ?_;simp -dsimp -implicitDefEqProofs only [go_sem]
 rw [hb] at hs;rw [if_pos rfl];have hm:=lS hb;have ha:=(tQ m [] hm (by simp) (by simp)).Mb (args':=[ky m,.val (.slice none 0 0)]) (.cons (.refl _) (.cons (.nil _) .nil));rw [show (([]:lL).all (fC m))=true from rfl] at ha;have e:decide ((0:Int)>(t.length:Int))=false:=dF (by omega);simp -dsimp -implicitDefEqProofs only [go_sem];refine aa hs ?_;simp -dsimp -implicitDefEqProofs only [go_sem,e];refine aa ha ?_;simp -dsimp -implicitDefEqProofs only [go_sem]
theorem zP (m:aL) (t:lL) (lim:Int) (h:t.length<=1048576) (h2:∀x∈t,x.length<=1048576):Fn pG 210 [jQ m t,.val (.slice none 0 0),eI lim] true (· =eI (kZ m t lim)):=by
 refine Fn.av 21 [.tmp 6] func210 (hv:= ?_);have hp:=Gx m t h h2;have hl:=MX lim;unfold kZ;rcases hb:eW m t with _|_
 . rw [hb,if_neg (by simp)] at hp;rw [if_neg (by simp)];have e:((1:Int) != 0)=true:=rfl;simp -dsimp -implicitDefEqProofs only [go_sem];refine aa hp ?_;simp -dsimp -implicitDefEqProofs only [go_sem,e]
 rw [hb,if_pos rfl] at hp;rw [if_pos rfl];have e:((0:Int) != 0)=false:=rfl;rcases hi:bx lim 0 4000 with _|_
 . rw [hi] at hl;rw [if_neg (by simp)];simp -dsimp -implicitDefEqProofs only [go_sem];refine aa hp ?_;simp -dsimp -implicitDefEqProofs only [go_sem,e];refine aa hl ?_;simp -dsimp -implicitDefEqProofs only [go_sem]
 rw [hi] at hl;rw [if_pos rfl];have hF:MN m t []:=Vw hb (by simp) (λx hx=>by cases hx);have ho:=(Dp m t [] hF.pg hF.tl hF.le hF.t0 hF.row hF.wd (λx hx=>by cases hx)).Mb (args':=[jQ m t,.val (.slice none 0 0)]) (.cons (.refl _) (.cons (.nil _) .nil));rw [show lW m t []=true from rfl] at ho;simp -dsimp -implicitDefEqProofs only [go_sem];refine aa hp ?_;simp -dsimp -implicitDefEqProofs only [go_sem,e];refine aa hl ?_;simp -dsimp -implicitDefEqProofs only [go_sem];refine aa ho ?_;simp -dsimp -implicitDefEqProofs only [go_sem]
def gF (m:aL) (t:lL) (lim:Nat) (part:lL) (rec:lL->SS->Bool × SS) (st:SS × Bool) (k:lI):(SS × Bool) × Bool:=
 if ((st.1.tries:Int)==(lim:Int))=true then ((⟨st.1.tries,true,st.1.found⟩,false),false)
 else if nR m t part k=true then (((rec (part++[k]) ⟨st.1.tries+1,st.1.stop,st.1.found⟩).2,(rec (part++[k]) ⟨st.1.tries+1,st.1.stop,st.1.found⟩).1),(rec (part++[k]) ⟨st.1.tries+1,st.1.stop,st.1.found⟩).1)
 else ((⟨st.1.tries+1,st.1.stop,st.1.found⟩,st.2),st.2)
def f_ (m:aL) (t:lL) (lim:Nat):Nat->lL->SS->Bool × SS
 |0,part,z=>(false,⟨z.tries,z.stop,z.found++[part]⟩)
 |d+1,part,z=>((bA (gF m t lim part (f_ m t lim d)) (z,true) (bu m)).1.2,(bA (gF m t lim part (f_ m t lim d)) (z,true) (bu m)).1.1)
theorem Gy (m:aL) (t:lL) (lim d:Nat) (part:lL) (z:SS):f_ m t lim (d+1) part z=((bA (gF m t lim part (f_ m t lim d)) (z,true) (bu m)).1.2,(bA (gF m t lim part (f_ m t lim d)) (z,true) (bu m)).1.1):=rfl
structure Xc (lim:Nat) (z:SS) (r:Bool × SS):Prop where
 tr:r.2.tries<=lim
 same:r.1=true->r.2.found=z.found
 le:r.2.found.length<=z.found.length+1
theorem T6 {m:aL} {t:lL} {lim:Nat} {part:lL} {rec:lL->SS->Bool × SS} (hr:∀p z,z.tries<=lim->Xc lim z (rec p z)) (st:SS × Bool) (k:lI) (h:st.1.tries<=lim):
 (gF m t lim part rec st k).1.1.tries<=lim/\((gF m t lim part rec st k).1.2=true->(gF m t lim part rec st k).1.1.found=st.1.found)/\(gF m t lim part rec st k).1.1.found.length<=st.1.found.length+1/\(gF m t lim part rec st k).2=(gF m t lim part rec st k).1.2:=by
 unfold gF;split
 . exact ⟨h,λ_=>rfl,Nat.le_succ _,rfl⟩
 rename_i hne;have hne:st.1.tries≠lim:=λe=>hne (by rw [e];simp);split
 . have:=hr (part++[k]) ⟨st.1.tries+1,st.1.stop,st.1.found⟩ (by simp only;omega);exact ⟨this.tr,this.same,this.le,rfl⟩
 exact ⟨by simp only;omega,λ_=>rfl,Nat.le_succ _,rfl⟩
theorem Ka {m:aL} {t:lL} {lim:Nat} {part:lL} {rec:lL->SS->Bool × SS} (hr:∀p z,z.tries<=lim->Xc lim z (rec p z)):∀(ks:lL) (z:SS),z.tries<=lim→
 Xc lim z ((bA (gF m t lim part rec) (z,true) ks).1.2,(bA (gF m t lim part rec) (z,true) ks).1.1)
 | [],z,h=>⟨h,λ_=>rfl,Nat.le_succ _⟩
 |k::ks,z,h=>by
  obtain ⟨g1,g2,g3,g4⟩:=T6 (m:=m) (t:=t) (part:=part) hr (z,true) k h;rw [bA];split
  . rename_i hb;rw [g4] at hb;have e:(gF m t lim part rec (z,true) k).1=((gF m t lim part rec (z,true) k).1.1,true):=Prod.ext rfl hb;have ih:=Ka hr ks (gF m t lim part rec (z,true) k).1.1 g1 (m:=m) (t:=t) (part:=part);rw [e];have hs:=g2 hb;exact ⟨ih.tr,λh=>(ih.same h).trans hs,by have:=ih.le;rw [hs] at this;exact this⟩
  exact ⟨g1,g2,g3⟩
theorem Dq (m:aL) (t:lL) (lim:Nat):∀(d:Nat) (part:lL) (z:SS),z.tries<=lim->Xc lim z (f_ m t lim d part z)
 |0,part,z,h=>⟨h,λh=>(by cases h),by simp [f_]⟩
 |d+1,part,z,h=>Ka (λp z h=>Dq m t lim d p z h) (bu m) z h
theorem zi {m:aL} {t:lL} {lim:Nat} {part:lL} {recG recF:lL->SS->Bool × SS} (hst:∀k∈bu m,lW m t (part++[k])=nR m t part k)
 (hok:∀p z,z.tries<=lim->Xc lim z (recG p z)) (lh:∀k∈bu m,nR m t part k=true->∀z,z.tries<=lim->z.found=[]->recF (part++[k]) z=(!(recG (part++[k]) z).1,(recG (part++[k]) z).2)):∀(ks:lL) (z:SS),(∀k∈ks,k∈bu m)->z.tries<=lim->z.found=[]→
 DO m t lim part recF ks z=(!(bA (gF m t lim part recG) (z,true) ks).1.2,(bA (gF m t lim part recG) (z,true) ks).1.1)
 | [],z,_,_,_=>rfl
 |k::ks,z,hk,h,hz=>by
  have hka:=hk k (List.mem_cons_self ..);have hks:∀x∈ks,x∈bu m:=λx hx=>hk x (List.mem_cons_of_mem _ hx);rw [DO,bA];by_cases e1:((z.tries:Int)==(lim:Int))=true
  . have eg:gF m t lim part recG (z,true) k=((⟨z.tries,true,z.found⟩,false),false):=(by unfold gF;rw [if_pos e1]);rw [if_pos e1,eg,if_neg (by simp)];rfl
  have hne:z.tries≠lim:=λe=>e1 (by rw [e];simp);rw [if_neg e1,hst k hka];by_cases e2:nR m t part k=true
  . have hr:=lh k hka e2 ⟨z.tries+1,z.stop,z.found⟩ (by simp only;omega) hz;have hg:=hok (part++[k]) ⟨z.tries+1,z.stop,z.found⟩ (by simp only;omega);have eg:gF m t lim part recG (z,true) k=(((recG (part++[k]) ⟨z.tries+1,z.stop,z.found⟩).2,(recG (part++[k]) ⟨z.tries+1,z.stop,z.found⟩).1),(recG (part++[k]) ⟨z.tries+1,z.stop,z.found⟩).1):=by
     unfold gF;rw [if_neg e1,if_pos e2]
    rw [if_pos e2,eg,hr];generalize recG (part++[k]) ⟨z.tries+1,z.stop,z.found⟩=w at*;obtain ⟨b,z1⟩:=w;cases b with
    |true=>
     have hf:z1.found=[]:=(hg.same rfl).trans hz;have:=zi hst hok lh ks z1 hks hg.tr hf;simpa using this
    |false=>simp
  have eg:gF m t lim part recG (z,true) k=((⟨z.tries+1,z.stop,z.found⟩,true),true):=by unfold gF;rw [if_neg e1,if_neg e2]
  rw [if_neg e2,eg,if_pos rfl];exact zi hst hok lh ks _ hks (by simp only;omega) hz
theorem Cl {m:aL} {t:lL} {lim:Nat} (hm:aW m=true):∀(d:Nat) (part:lL) (z:SS),(∀k∈part,k∈bu m)->lW m t part=true->z.tries<=lim->z.found=[]→
 dN m t lim d part z=(!(f_ m t lim d part z).1,(f_ m t lim d part z).2)
 |0,part,z,_,_,_,hz=>by simp [dN,f_,hz]
 |d+1,part,z,hp,ho,h,hz=>by
  have hn:=aI hm;have hpk:∀x∈part,(x.length:Int)=m.ae/\∀y∈x,0<=y/\y<m.ak:=λx hx=>by have:=kj (m:=m) (by omega) (hp x hx);exact ⟨this.len,this.el⟩
  rw [dN,Gy];refine zi (λk _=>zg m t part k ho hpk) (λp z h=>Dq m t lim d p z h) (λk hk hs z hz1 hz2=> ?_) (bu m) z (λ_ h=>h) h hz;refine Cl hm d (part++[k]) z (λx hx=> ?_) (by rw [zg m t part k ho hpk];exact hs) hz1 hz2;rcases List.mem_append.1 hx with hx|hx
  . exact hp x hx
  rw [List.mem_singleton] at hx;subst hx;exact hk
end Go.Vc
