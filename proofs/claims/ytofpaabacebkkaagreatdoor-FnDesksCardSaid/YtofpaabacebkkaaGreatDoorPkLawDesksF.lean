import Derived.WalkKit
import Derived.OwnWalkIn
import Derived.TacticsInMore
import Derived.RegionIn
import Derived.LoopNIn
import Derived.LoopIn
import Derived.Shelf.Abstract
import Derived.Test.YtofpaabacebkkaaGreatDoorPkLawDesksE
open Go.Proofs.Tryz
open Go.Proofs.Tryz renaming prog → pG
open Go renaming undef → uD
set_option linter.unusedVariables false
set_option linter.unusedSimpArgs false
set_option linter.unnecessarySimpa false
set_option maxRecDepth 1000000
set_option maxHeartbeats 16000000
open Bool renaming and_eq_true->uq0,false_and->uq1,false_eq_true->uq2,true_and->uq3
open List renaming all_eq_true->uq4,drop_succ_cons->uq5,drop_zero->uq6,getD_eq_getElem?_getD->uq7,getElem?_eq_getElem->uq8,getElem_mem->uq9,length_append->bk,length_cons->dL,length_map->dE,length_nil->cM,length_range->a_,map->ba,map_append->bp,map_cons->cE,map_nil->b7,map_singleton->eR,mem_of_mem_take->dh,range->c_,replicate->bw,take->di,take_length->e8,take_of_length_le->cm,take_succ_cons->fu,take_succ_eq_append_getElem->eZ,take_zero->da
open Nat renaming le_refl->j_,not_lt_zero->DO
open Option renaming isNone_none->Hb,isNone_some->Hc,toList_none->DP,toList_some->DQ
namespace Go.Vc
open Go.Proofs Go.Lib
theorem uc (xs:List lU)(sep:lU)(n:Nat)(h:∀x∈xs,x.length<=n):(Lib.join xs sep).length<=xs.length*(n+sep.length):=by
 cases xs with
 |nil=>simp[join_nil]
 |cons x r=>
  rw [join_length];have hl:∀(l:List lU),(∀x∈l,x.length<=n)->lens l<=l.length*n:=by
   intro l;induction l with
   |nil=>intro _;simp[lens]
   |cons y t ih=>
    intro h;have h1:=h y (List.mem_cons_self ..);have h2:=ih λz hz=>h z (List.mem_cons_of_mem _ hz);simp only[lens,cE,List.sum_cons,dL] at h2 ⊢;rw[Nat.add_mul];omega
  have:=hl (x::r) h;simp only[dL] at this ⊢;rw[Nat.mul_add,Nat.mul_comm sep.length r.length,Nat.add_mul r.length 1 sep.length];generalize (r.length+1)*n=p at*;generalize r.length*sep.length=q at*;omega
theorem rA (xs:List lU)(y sep:lU):Lib.join (xs++[y]) sep=if xs=[] then y else Lib.join xs sep++(sep++y):=by
 cases xs with
 |nil=>simp[join_one]
 |cons x r=>
  rw[if_neg (by simp),List.cons_append,join_cons,join_cons];simp[joinTail]
theorem Cb {xs:lI}(hx:∀x∈xs,jy x)(sep:lU)(hs:sep.length<=10)(h:xs.length<=1048576):(Lib.join (xs.map itoa) sep).length<=32505856:=by
 have h1:=uc (xs.map itoa) sep 21 (by
  intro y hy;obtain ⟨x,hxm,rfl⟩:=List.mem_map.1 hy
  exact bU (hx x hxm))
 rw[dE] at h1;have h2:xs.length*(21+sep.length)<=1048576*31:=Nat.mul_le_mul h (by omega);omega
theorem ud (sep:lU)(hs:sep.length<=10)(xs:lI)(h:xs.length<=1048576)(hx:∀x∈xs,jy x):Fn pG 165 [aM xs,eS sep] true (· =eS (Lib.join (xs.map itoa) sep)):=by
 refine Fn.au 24 [.tmp 4] func165 (hv:=?_);simp -dsimp -implicitDefEqProofs only[go_sem];refine aj.up [1,9,10] [17,18,19] [8] xs.length (λ_=>True) (λi=>[(5,.ref 8 0 0 i),(11,eI i)]) (λi=>[(8,.row 0 ⟨1,false⟩ true (((xs.take i).map itoa).map eS))]) trivial ?_ rfl (λi hi _=>?_) (λ_=>?_)
 . simp -dsimp -implicitDefEqProofs only[go_sem]
 . have gi:=get_some hi;have h64:=hx xs[i] (uq9 hi);have htk:xs.take (i+1)=xs.take i++[xs[i]]:=eZ hi;rw [htk];generalize xs[i]=x at*;simp -dsimp -implicitDefEqProofs only [go_sem,aE hi,gi];with_reducible and_intros
   all_goals try omega
   refine aa (la h64) ?_;simp -dsimp -implicitDefEqProofs only[go_sem];with_reducible and_intros
   all_goals (first|omega|(refine ⟨?_,?_⟩<;>omega)|exact rfl|(simp;done)|skip)
 have hj:=Cb hx sep hs h;simp -dsimp -implicitDefEqProofs only[go_sem,aA,e8];have e:di xs.length (ba eS (ba itoa xs))=ba eS (ba itoa xs):=cm (by simp);simp only[e];refine aa (P1 (xs.map itoa) sep (by simp;omega) (by omega)) ?_;simp -dsimp -implicitDefEqProofs only[go_sem]
def y2 (l:lI):lU:=if l=[] then [45] else Lib.join (l.map itoa) [44]
theorem zR (l:lI)(h:l.length<=100)(hx:∀x∈l,0<=x/\x<=1000000000000):Fn pG 170 [aM l] true (· =eB true):=by
 refine Fn.au 10 [.tmp 2] func170 (hv:=?_);have hc:=pe l 0 1000000000000 (by omega);have e:(l.all λx=>bA x 0 1000000000000)=true:=uq4.2 λx hm=>by have:=hx x hm;simp[bA];omega
 rw[e] at hc;have h1:decide ((l.length:Int)<=100)=true:=dT (by omega);simp -dsimp -implicitDefEqProofs only[go_sem,h1];refine aa hc ?_;simp -dsimp -implicitDefEqProofs only[go_sem]
theorem I4 (l:lI)(h:l.length<=100)(hx:∀x∈l,0<=x/\x<=1000000000000):Fn pG 122 [aM l] true (· = .aX [eS (y2 l),eI 0]):=by
 refine Fn.au 12 [.tmp 2,.tmp 3] func122 (hv:=?_);have hc:=zR l h hx;have hj:=ud [44] (by simp) l (by omega) (λx hm=>by have:=hx x hm;unfold jy;omega);simp -dsimp -implicitDefEqProofs only[go_sem];refine aa hc ?_;unfold y2;cases l with
 |nil=>
  have e:((([]:lI).length:Int)==0)=true:=rfl;simp -dsimp -implicitDefEqProofs only[go_sem]
 |cons a r=>
  have e:(((a::r).length:Int)==0)=false:=by rw[beq_eq_false_iff_ne];simp;omega
  rw[if_neg (by simp)];generalize (a::r)=l at*;simp -dsimp -implicitDefEqProofs only[go_sem,e];refine aa hj ?_;simp -dsimp -implicitDefEqProofs only[go_sem]
theorem MN (l:lI)(h:l.length<=100)(hx:∀x∈l,0<=x/\x<=1000000000000):Fn pG 105 [aM l] true (· =eS (y2 l)):=by
 refine Fn.au 26 [.tmp 2] func105 (hv:=?_);by_cases h0:l=[]
 . subst h0;have e:((([]:lI).length:Int)==0)=true:=rfl;simp -dsimp -implicitDefEqProofs only[go_sem];all_goals (first|exact rfl|skip)
 have hl0:0<l.length:=List.length_pos_iff.2 h0;have e:((l.length:Int)==0)=false:=by rw[beq_eq_false_iff_ne];omega
 have hlen:∀i,(Lib.join ((l.take i).map itoa) [44]).length<=32505856:=λi=>Cb (λx hm=>by have:=hx x (dh hm);unfold jy;omega) [44] (by simp) (by simp;omega);rw[y2,if_neg h0];simp -dsimp -implicitDefEqProofs only[go_sem,e];refine aj.up [0] [10,23] [] l.length (λ_=>True) (λi=>[(3,eS (Lib.join ((l.take i).map itoa) [44])),(4,eI i)]) (λ_=>[]) trivial ?_ rfl (λi hi _=>?_) (λ_=>?_)
 . simp -dsimp -implicitDefEqProofs only[go_sem];exact rfl
 . have gi:=get_some hi;have hd:=cC l[i] (by have:=hx _ (uq9 hi);omega);have hil:=bU (v:=l[i]) (by have:=hx _ (uq9 hi);unfold jy;omega);have hln:=hlen i;have hT:Lib.join ((l.take (i+1)).map itoa) [44]=if i=0 then itoa l[i] else Lib.join ((l.take i).map itoa) [44]++([44]++itoa l[i]):=by
    rw[eZ hi,bp,eR,rA];by_cases hz:i=0
    . subst hz;simp
    rw[if_neg hz,if_neg];intro e2;have:=congrArg List.length e2;rw[dE,List.length_take,cM] at this;omega
   rw[hT];clear hT;generalize l[i]=x at*;rcases Nat.eq_zero_or_pos i with rfl|hp
   . have d0:decide ((0:Int)>0)=false:=rfl;have dl:decide ((0:Int)<(l.length:Int))=true:=dT (by omega);rw[if_pos rfl];have ez:Lib.join ((l.take 0).map itoa) [44]=[]:=(by rw[da];rfl);rw[ez];simp -dsimp -implicitDefEqProofs only[go_sem,dl,gi,d0];((with_reducible and_intros);all_goals try omega);refine aa hd ?_;simp -dsimp -implicitDefEqProofs only[go_sem];((with_reducible and_intros);all_goals try first|omega|(refine ⟨?_,?_⟩<;>omega)|exact rfl)
   have d0:decide ((i:Int)>0)=true:=dT (by omega);rw[if_neg (by omega)];generalize Lib.join ((l.take i).map itoa) [44]=o at*;simp -dsimp -implicitDefEqProofs only[go_sem,aE hi,gi,d0];((with_reducible and_intros);all_goals try omega);refine aa hd ?_;simp -dsimp -implicitDefEqProofs only[go_sem];((with_reducible and_intros);all_goals try first|omega|(refine ⟨?_,?_⟩<;>omega)|exact rfl);all_goals first|(simp;done)|skip
 simp -dsimp -implicitDefEqProofs only[go_sem,aA,e8]
def Qi (x:Int):UInt8:=UInt8.ofNat (48+x.toNat)
def lf (c:lI):lU:=c.map Qi
theorem Qj {x:Int}(h:0<=x/\x<=9):((Qi x).toNat:Int)=48+x:=by unfold Qi;rw[UInt8.toNat_ofNat'];omega
theorem Qk {x:Int}(h:0<=x/\x<=9):itoa x=[Qi x]:=by rw[fh h.1,Kj (by omega)];rfl
theorem MO:∀(c:lI),(∀x∈c,0<=x/\x<=9)->Lib.join (c.map itoa) []=lf c:=by
 intro c hc;have hf:∀(c:lI),(∀x∈c,0<=x/\x<=9)->(c.map itoa).flatten=lf c:=by
  intro c;induction c with
  |nil=>intro _;rfl
  |cons x r ih=>
   intro h;rw[cE,List.flatten_cons,Qk (h x (List.mem_cons_self ..)),ih λy hy=>h y (List.mem_cons_of_mem _ hy)];rfl
 rw[←hf c hc];cases c with
 |nil=>rfl
 |cons x r=>
  rw[cE,join_cons,joinTail,List.flatten_cons];congr 2;simp
theorem qc (c:lI)(h:c.length<=1048576)(hx:∀x∈c,0<=x/\x<=9):Fn pG 66 [aM c] true (· =eS (lf c)):=by
 refine Fn.au 23 [.tmp 2] func66 (hv:=?_);simp -dsimp -implicitDefEqProofs only[go_sem];refine aj.up [0] [8,19,20] [5] c.length (λ_=>True) (λi=>[(3,.ref 5 0 0 i),(4,eI i)]) (λi=>[(5,.row 0 ⟨1,false⟩ true ((lf (c.take i)).map eY))]) trivial ?_ rfl (λi hi _=>?_) (λ_=>?_)
 . simp -dsimp -implicitDefEqProofs only[go_sem];all_goals first|rfl|skip
 . have gi:=get_some hi;have hb:=hx c[i] (uq9 hi);have htk:lf (c.take (i+1))=lf (c.take i)++[Qi c[i]]:=by
    rw[eZ hi,lf,bp];rfl
   have hln:(lf (c.take i)).length=i:=(by simp[lf];omega);rw[htk,bp,eR];clear htk;generalize lf (c.take i)=K at*;generalize c[i]=x at*;have hw:IntKind.u8.wrap (48+x)=48+x:=qb (by omega);have hd:=Qj hb;have tK:di i (K.map eY)=K.map eY:=cm (by simp[hln]);simp -dsimp -implicitDefEqProofs only[go_sem,aE hi,gi,hw,tK];((with_reducible and_intros);all_goals try first|omega|(refine ⟨?_,?_⟩<;>omega)|exact rfl);all_goals first|(simp;omega)|skip
 have hln:(lf c).length=c.length:=by simp[lf]
 rw[e8];have tK:di c.length ((lf c).map eY)=(lf c).map eY:=cm (by simp[hln]);simp -dsimp -implicitDefEqProofs only[go_sem,aA,tK];(all_goals try omega)
def Xo (m:aJ)(c:lI):lU × Int:=if aU m=true then if fault m c=0 then (lf c,0) else ([],2) else ([],1)
theorem Cc {m:aJ}(hm:aU m=true){c:lI}(h:fault m c=0):∀x∈c,0<=x/\x<=9:=by have hk:=qG.P9 h;have hn:=aI hm;intro x hx;have:=hk.el x hx;omega
theorem MP (m:aJ)(c:lI)(h:c.length<=1048576):Fn pG 124 [kj m,aM c] true (· = .aX [eS (Xo m c).1,eI (Xo m c).2]):=by
 refine Fn.au 16 [.tmp 4,.tmp 5] func124 (hv:=?_);have hc:=vG m c h;unfold Xo;by_cases hm:aU m=true
 . rw [if_pos hm] at hc ⊢;by_cases hf:fault m c=0
   . rw[if_pos hf] at hc ⊢;have hd:=Cc hm hf;have hj:=ud [] (by simp) c h (λx hx=>by have:=hd x hx;unfold jy;omega);rw[MO c hd] at hj;have e:((0:Int) != 0)=false:=rfl;simp -dsimp -implicitDefEqProofs only[go_sem];refine aa hc ?_;simp -dsimp -implicitDefEqProofs only[go_sem,e];refine aa hj ?_;simp -dsimp -implicitDefEqProofs only[go_sem]
   rw[if_neg hf] at hc ⊢;have e:((2:Int) != 0)=true:=rfl;simp -dsimp -implicitDefEqProofs only[go_sem];refine aa hc ?_;simp -dsimp -implicitDefEqProofs only[go_sem,e]
 rw[if_neg hm] at hc ⊢;have e:((1:Int) != 0)=true:=rfl;simp -dsimp -implicitDefEqProofs only[go_sem];refine aa hc ?_;simp -dsimp -implicitDefEqProofs only[go_sem,e]
def bt (s:lU):lI:=s.map λb=>(b.toNat:Int)-48
def kb (m:aJ)(s:lU):lI × Int:=if aU m=true then if fault m (bt s)=0 then (bt s,0) else ([],6) else ([],1)
theorem cZ (s:lU):(bt s).length=s.length:=by simp[bt]
theorem I5 {m:aJ}(hm:aU m=true){s:lU}(h:fault m (bt s)=0):s.all dR=true:=by have hd:=Cc hm h;rw[uq4];intro b hb;have:=hd _ (List.mem_map_of_mem (f:=λb:UInt8=>(b.toNat:Int)-48) hb);simp[dR];omega
theorem MQ (m:aJ)(hm:aU m=true)(s:lU)(h:s.length<=1048576):Fn pG 167 [kj m,eS s] true (· = .aX [aM (bt s),eB (fD m (bt s))]):=by
 refine Fn.au 27 [.tmp 4,.tmp 5] func167 (hv:=?_);have hk:=Df m (bt s) hm (by rw[cZ];exact h);simp -dsimp -implicitDefEqProofs only[go_sem];refine aj.up [1,2,10] [20,21] [8] s.length (λ_=>True) (λi=>[(6,.ref 8 0 0 i),(11,eI i)]) (λi=>[(8,.row 0 ⟨1,false⟩ true ((bt (s.take i)).map eI))]) trivial ?_ rfl (λi hi _=>?_) (λ_=>?_)
 . simp -dsimp -implicitDefEqProofs only[go_sem];all_goals first|rfl|skip
 . have hg:(s.getD i 0)=s[i]:=(by rw [uq7,uq8 hi];rfl);have hb:=(s[i]).toNat_lt;have htk:bt (s.take (i+1))=bt (s.take i)++[(s[i].toNat:Int)-48]:=by
    rw[eZ hi,bt,bp];rfl
   have hln:(bt (s.take i)).length=i:=(by rw[cZ,List.length_take];omega);rw[htk,bp,eR];clear htk;generalize bt (s.take i)=K at*;generalize s[i]=b at*;have tK:di i (K.map eI)=K.map eI:=cm (by simp[hln]);simp -dsimp -implicitDefEqProofs only[go_sem,aE hi,hg,tK];((with_reducible and_intros);all_goals try first|omega|(refine ⟨?_,?_⟩<;>omega)|exact rfl)
 rw[e8];have hln:=cZ s;have tK:di s.length ((bt s).map eI)=(bt s).map eI:=cm (by simp[hln]);simp -dsimp -implicitDefEqProofs only[go_sem,aA,tK];((with_reducible and_intros);all_goals try omega);refine aa hk ?_;simp -dsimp -implicitDefEqProofs only[go_sem,tK];((with_reducible and_intros);all_goals try omega);all_goals first|(simp;done)|skip
theorem y3 (m:aJ)(s:lU)(h:s.length<=1048576):Fn pG 120 [kj m,eS s] true (· = .aX [aM (kb m s).1,eI (kb m s).2]):=by
 refine Fn.au 20 [.tmp 4,.tmp 5] func120 (hv:=?_);unfold kb;rcases hm:aU m with _|_
 . have hi:=eV m;rw[hm] at hi;rw[if_neg (by simp)];simp -dsimp -implicitDefEqProofs only[go_sem];refine aa hi ?_;simp -dsimp -implicitDefEqProofs only[go_sem]
 have hi:=eV m;rw[hm] at hi;have hr:=MQ m hm s h;have hln:=cZ s;rw[if_pos rfl];simp -dsimp -implicitDefEqProofs only[go_sem];refine aa hi ?_;simp -dsimp -implicitDefEqProofs only[go_sem];refine aa hr ?_;by_cases hf:fault m (bt s)=0
 . have e:fD m (bt s)=true:=beq_iff_eq.2 hf;rw[if_pos hf];simp -dsimp -implicitDefEqProofs only[go_sem,e];all_goals first|(simp;done)|skip
 have e:fD m (bt s)=false:=beq_eq_false_iff_ne.2 hf;rw[if_neg hf];simp -dsimp -implicitDefEqProofs only[go_sem,e]
theorem Cd (s:lU)(h:s.length<=1048576):Fn pG 135 [eS s] true (· = .aX [aM (if s.all dR=true then bt s else []),eB (s.all dR)]):=by
 refine Fn.au 32 [.tmp 2,.tmp 3] func135 (hv:=?_);simp -dsimp -implicitDefEqProofs only[go_sem];refine aj.up [0] [9,29,30] [6] s.length (λi=>(s.take i).all dR=true) (λi=>[(4,.ref 6 0 0 i),(5,eI i)]) (λi=>[(6,.row 0 ⟨1,false⟩ true ((bt (s.take i)).map eI))]) rfl ?_ rfl (λi hi hI=>?_) (λhI=>?_)
 . simp -dsimp -implicitDefEqProofs only[go_sem];all_goals first|rfl|skip
 . have hg:(s.getD i 0)=s[i]:=(by rw [uq7,uq8 hi];rfl);have hb:=(s[i]).toNat_lt;have cP:=dA dR s i hi;have hno:=λh=>gQ (p:=dR) hi h;have hd:=I2 s[i];have htk:bt (s.take (i+1))=bt (s.take i)++[(s[i].toNat:Int)-48]:=by
    rw[eZ hi,bt,bp];rfl
   have hln:(bt (s.take i)).length=i:=(by rw[cZ,List.length_take];omega);rw[htk,bp,eR];clear htk;generalize bt (s.take i)=K at*;have tK:di i (K.map eI)=K.map eI:=cm (by simp[hln]);generalize s[i]=b at*;rcases d1:decide ((b.toNat:Int)<48) with _|_
   . rcases d2:decide ((b.toNat:Int)>57) with _|_
     . have e1:=of_decide_eq_false d1;have hw:IntKind.u8.wrap ((b.toNat:Int)-48)=(b.toNat:Int)-48:=qb (by have:=of_decide_eq_false d2;omega);simp -dsimp -implicitDefEqProofs only[go_sem,aE hi,hg,d1,d2,hw,tK];((with_reducible and_intros);all_goals try first|omega|(refine ⟨?_,?_⟩<;>omega)|exact rfl);all_goals first|(rw[cP,hI];show dR b=true;rw[dR,hd,d1,d2];rfl)|skip
     have hz:=hno (by rw[dR,hd,d1,d2];rfl);rw[hz,if_neg (by simp)];simp -dsimp -implicitDefEqProofs only[go_sem,aE hi,hg,d1,d2];((with_reducible and_intros);all_goals try omega)
   have hz:=hno (by rw[dR,hd,d1];rfl);rw[hz,if_neg (by simp)];simp -dsimp -implicitDefEqProofs only[go_sem,aE hi,hg,d1];((with_reducible and_intros);all_goals try omega)
 rw[e8] at hI ⊢;rw[hI,if_pos rfl];have hln:=cZ s;have tK:di s.length ((bt s).map eI)=(bt s).map eI:=cm (by simp[hln]);simp -dsimp -implicitDefEqProofs only[go_sem,aA,tK];((with_reducible and_intros);all_goals try omega);all_goals first|(simp;done)|skip
theorem y4 (m:aJ)(s:lU)(h:s.length<=1048576):Fn pG 103 [kj m,eS s] true (· = .aX [aM (kb m s).1,eI (kb m s).2]):=by
 refine Fn.au 25 [.tmp 4,.tmp 5] func103 (hv:=?_);unfold kb;have hi:=fC m;rcases hm:aU m with _|_
 . rw[hm] at hi;rw[if_neg (by simp)];simp -dsimp -implicitDefEqProofs only[go_sem];refine aa hi ?_;simp -dsimp -implicitDefEqProofs only[go_sem]
 rw[hm] at hi;have hr:=Cd s h;have hln:=cZ s;have hft:=nH m (bt s) hm (by omega);rw[if_pos rfl];rcases hd:s.all dR with _|_
 . rw [hd,if_neg (by simp)] at hr;have hf:¬fault m (bt s)=0:=λe=>by rw [I5 hm e] at hd;cases hd
   rw[if_neg hf];simp -dsimp -implicitDefEqProofs only[go_sem];refine aa hi ?_;simp -dsimp -implicitDefEqProofs only[go_sem];refine aa hr ?_;simp -dsimp -implicitDefEqProofs only[go_sem]
 rw[hd,if_pos rfl] at hr;have tK:di (bt s).length ((bt s).map eI)=(bt s).map eI:=cm (by simp);by_cases hf:fault m (bt s)=0
 . have e:((0:Int) != 0)=false:=rfl;rw[hf] at hft;rw[if_pos hf];simp -dsimp -implicitDefEqProofs only[go_sem];refine aa hi ?_;simp -dsimp -implicitDefEqProofs only[go_sem];refine aa hr ?_;simp -dsimp -implicitDefEqProofs only[go_sem,tK];refine aa hft ?_;simp -dsimp -implicitDefEqProofs only[go_sem,e,tK];all_goals first|(simp;done)|skip
 have e:(fault m (bt s) != 0)=true:=bne_iff_ne.2 hf;rw[if_neg hf];simp -dsimp -implicitDefEqProofs only[go_sem];refine aa hi ?_;simp -dsimp -implicitDefEqProofs only[go_sem];refine aa hr ?_;simp -dsimp -implicitDefEqProofs only[go_sem,tK];refine aa hft ?_;simp -dsimp -implicitDefEqProofs only[go_sem,e]
def pA (w:Nat)(s:lU):lU:=bw (w-s.length) 48++s
def Kl (series n:Int):Int:=(100*n+series).tmod 97
def ue (w:Nat)(series n:Int):lU:=[UInt8.ofNat (65+series).toNat]++pA w (itoa n)++[45]++pA 2 (itoa (Kl series n))
def Ql (s:lU):Nat->Int
 |0=>0
 |i+1=>Ql s i*10+((s.getD (i+1) 0).toNat:Int)-48
theorem I6 (s:lU):∀i, -(29*10^i-29)<=Ql s i/\Ql s i<=29*10^i-29
 |0=>by simp[Ql]
 |i+1=>by
  have ih:=I6 s i;have hb:=(s.getD (i+1) 0).toNat_lt;have e:(10:Int)^(i+1)=10*10^i:=by rw[Int.pow_succ,Int.mul_comm]
  simp only[Ql];rw[e];generalize (s.getD (i+1) 0).toNat=x at*;generalize (10:Int)^i=p at*;omega
theorem Qm {x:Int}(h:0<=x/\x<256):IntKind.i32.wrap x=x:=by simp[IntKind.wrap,IntKind.bits,IntKind.signed];omega
theorem Ce:∀k,Lib.repeatL [48] k=bw k 48
 |0=>rfl
 |k+1=>by rw[Lib.repeatL,Ce k,List.replicate_succ];rfl
theorem MR (k:Nat)(h:k<=1000000):Fn pG 264 [eS [48],eI k] true (· =eS (bw k 48)):=by refine Fn.plain [.string ⟨[48].toArray⟩,.int .i64 k] ⟨Tryz.f264,_,func264,by decide,rfl⟩ λw S hk=>?_;refine (Any.strings_Repeat Tryz.Mi Tryz.FN ⟨[48].toArray⟩ k w (by omega) (by simp[pZ];omega)).mono ?_;rintro e w' ⟨rfl,hb⟩;rw[nD,Ce];exact ⟨_,[],rfl,Grown.pf hb,rb rfl,List.nodup_nil,λb hb=>by cases hb⟩
theorem s8 (n:Int)(w:Nat)(hn:0<=n/\n<=1000000)(hw:w<=1000):Fn pG 229 [eI n,eI w] true (· =eS (pA w (itoa n))):=by
 refine Fn.au 16 [.tmp 4] func229 (hv:=?_);have ht:=la (n:=n) ⟨by omega,by omega⟩;have hl:=bU (v:=n) ⟨by omega,by omega⟩;have hmx:(if (w:Int)-((itoa n).length:Int)>0 then (w:Int)-((itoa n).length:Int) else 0)=((w-(itoa n).length:Nat):Int):=by split<;>omega
 have hr:=MR (w-(itoa n).length) (by omega);simp -dsimp -implicitDefEqProofs only[go_sem];(refine aa (ht) ?_;try simp -dsimp -implicitDefEqProofs only[go_sem, *]);((with_reducible and_intros);all_goals try ((refine ⟨?_,?_⟩<;>omega)));refine aa hr ?_;simp -dsimp -implicitDefEqProofs only[go_sem];refine ⟨by simp;omega,by exact rfl⟩
theorem MS (se n:Int)(h:0<=se/\se<=25)(hn:0<=n/\n<=9999999999):Fn pG 230 [eI se,eI n] true (· =eI (Kl se n)):=by refine Fn.au 10 [.tmp 4] func230 (hv:=?_);simp -dsimp -implicitDefEqProofs only[go_sem];((with_reducible and_intros);all_goals try first|omega|(refine ⟨?_,?_⟩<;>omega)|exact rfl)
theorem I7 (se n:Int)(h:0<=se/\se<=25)(hn:0<=n/\n<=9999999999):Fn pG 200 [eI se,eI n] true (· =eI (Kl se n)):=by refine Fn.au 10 [.tmp 4] func200 (hv:=?_);simp -dsimp -implicitDefEqProofs only[go_sem];((with_reducible and_intros);all_goals try first|omega|(refine ⟨?_,?_⟩<;>omega)|exact rfl)
theorem Cf {se n:Int}(h:0<=se/\se<=25)(hn:0<=n/\n<=1000000):0<=Kl se n/\Kl se n<=96:=by unfold Kl;rw[Int.tmod_eq_emod_of_nonneg (by omega)];omega
theorem Gc (K se n:Int)(hK:0<=K/\K<=1000000)(h:0<=se/\se<=25)(hn:0<=n/\n<=1000000):Fn pG 177 [eI K,eI se,eI n] true (· =eS (ue (itoa K).length se n)):=by
 refine Fn.au 23 [.tmp 6] func177 (hv:=?_);have ht:=la (n:=K) ⟨by omega,by omega⟩;have hl:=bU (v:=K) ⟨by omega,by omega⟩;have hd:=s8 n (itoa K).length hn (by omega);have hc:=MS se n h (by omega);have hcb:=Cf h hn;have hd2:=s8 (Kl se n) 2 (by omega) (by omega);have hw:IntKind.i32.wrap (65+se)=65+se:=Qm (by omega);have hpl:(pA (itoa K).length (itoa n)).length<=50:=by have:=bU (v:=n) ⟨by omega,by omega⟩;simp[pA];omega
 have Y9:(pA 2 (itoa (Kl se n))).length<=50:=by have:=bU (v:=Kl se n) ⟨by omega,by omega⟩;simp[pA];omega
 unfold ue;generalize pA (itoa K).length (itoa n)=A at*;generalize pA 2 (itoa (Kl se n))=Bs at*;simp -dsimp -implicitDefEqProofs only[go_sem,hw];refine ⟨⟨by omega,by omega⟩,by omega,?_⟩;(refine aa (ht) ?_;try simp -dsimp -implicitDefEqProofs only[go_sem, *]);(refine aa (hd) ?_;try simp -dsimp -implicitDefEqProofs only[go_sem, *]);((with_reducible and_intros);all_goals try omega);all_goals try (refine aa (hc) ?_;try simp -dsimp -implicitDefEqProofs only[go_sem, *])
 all_goals try (refine aa (hd2) ?_;try simp -dsimp -implicitDefEqProofs only[go_sem, *])
 (all_goals try omega)
theorem Gd (n:Int)(w:Nat)(hn:0<=n/\n<=1000000)(hw:w<=1000):Fn pG 198 [eI n,eI w] true (· =eS (pA w (itoa n))):=by
 refine Fn.au 15 [.tmp 4] func198 (hv:=?_);have ht:=cC n ⟨by omega,by omega⟩;have hl:=bU (v:=n) ⟨by omega,by omega⟩;unfold pA;generalize itoa n=A at*;simp -dsimp -implicitDefEqProofs only[go_sem];(refine aa (ht) ?_;try simp -dsimp -implicitDefEqProofs only[go_sem, *]);refine aj.up [1] [9] [] (w-A.length) (λ_=>True) (λi=>[(5,eS (bw i 48++A))]) (λ_=>[]) trivial ?_ rfl (λi hi _=>?_) (λ_=>?_)
 . simp -dsimp -implicitDefEqProofs only[go_sem]
 . have hlt:decide (((i+A.length:Nat):Int)<(w:Int))=true:=dT (by omega);have hlen:(bw i (48:UInt8)++A).length=i+A.length:=(by simp);rw[List.replicate_succ];simp -dsimp -implicitDefEqProofs only[go_sem,hlen,hlt];(all_goals try omega)
 have hlt:decide (((w-A.length+A.length:Nat):Int)<(w:Int))=false:=dF (by omega);have hlen:(bw (w-A.length) (48:UInt8)++A).length=w-A.length+A.length:=by simp
 simp -dsimp -implicitDefEqProofs only[go_sem,hlen,hlt]
theorem jH (m:aJ)(hm:aU m=true):lR m m.ae.toNat []<=262144:=by have tg:=aI hm;have:=Dh m hm m.ae.toNat [];have:8^m.ae.toNat<=8^6:=Nat.pow_le_pow_right (by decide) (by omega);omega
theorem lY (m:aJ)(hm:aU m=true):Fn pG 143 [kj m,Tf] true (· =eI (lR m m.ae.toNat [])):=
 (yS m hm m.ae.toNat [] (by have:=aI hm;simp;omega) (λx hx=>by cases hx)).Mt (.cons (.refl _) (.cons (.nil _) .nil))
theorem Ge (m:aJ)(hm:aU m=true):Fn pG 199 [kj m] true (· =eI ((itoa (lR m m.ae.toNat [])).length)):=by refine Fn.au 7 [.tmp 2] func199 (hv:=?_);have hc:=lY m hm;have hb:=jH m hm;generalize lR m m.ae.toNat []=N at*;have ht:=cC (N:Int) ⟨by omega,by omega⟩;simp -dsimp -implicitDefEqProofs only[go_sem];(refine aa (hc) ?_;try simp -dsimp -implicitDefEqProofs only[go_sem, *]);repeat' (refine aa (ht) ?_;try simp -dsimp -implicitDefEqProofs only[go_sem, *])
theorem MT (m:aJ)(hm:aU m=true)(se n:Int)(h:0<=se/\se<=25)(hn:0<=n/\n<=1000000):Fn pG 152 [kj m,eI se,eI n] true (· =eS (ue (itoa (lR m m.ae.toNat [])).length se n)):=by
 refine Fn.au 23 [.tmp 6] func152 (hv:=?_);have hc:=Ge m hm;have hb:=jH m hm;generalize lR m m.ae.toNat []=N at*;have hl:=bU (v:=(N:Int)) ⟨by omega,by omega⟩;have hp:=Gd n (itoa N).length hn (by omega);have hk:=I7 se n h (by omega);have hcb:=Cf h hn;have hp2:=Gd (Kl se n) 2 (by omega) (by omega);have hw:IntKind.u8.wrap (65+se)=65+se:=qb (by omega);have hpl:(pA (itoa N).length (itoa n)).length<=50:=by have:=bU (v:=n) ⟨by omega,by omega⟩;simp[pA];omega
 have Y9:(pA 2 (itoa (Kl se n))).length<=50:=by have:=bU (v:=Kl se n) ⟨by omega,by omega⟩;simp[pA];omega
 unfold ue;generalize pA (itoa N).length (itoa n)=A at*;generalize pA 2 (itoa (Kl se n))=Bs at*;simp -dsimp -implicitDefEqProofs only[go_sem];refine aj.draw mixed rfl ?_;simp -dsimp -implicitDefEqProofs only[go_sem,hw];refine ⟨⟨by omega,by omega⟩,by omega,?_⟩;(refine an (hc) ?_;try simp -dsimp -implicitDefEqProofs only[go_sem, *]);(refine an (hp) ?_;try simp -dsimp -implicitDefEqProofs only[go_sem, *]);((with_reducible and_intros);all_goals try omega);all_goals try (refine an (hk) ?_;try simp -dsimp -implicitDefEqProofs only[go_sem, *])
 all_goals try (refine an (hp2) ?_;try simp -dsimp -implicitDefEqProofs only[go_sem, *])
 ((with_reducible and_intros);all_goals try first|omega|exact rfl)
theorem getD_in {s:lU}{i:Nat}(h:i<s.length):s.getD i 0=s[i]:=by simp[uq7,h]
def iK (m:aJ):Int:=lR m m.ae.toNat []
def iY:lU:=[102,97,108,115,101]
def fe:lU:=[103,104,111,115,116,115]
def eu:lU:=[119,111,114,115,116]
def fT:lU:=[99,111,117,110,116]
def dr:lU:=[119,97,102,101,114,115]
def iH:lU:=[100,114,111,112]
def gX:lU:=[102,105,110,100]
def je:lU:=[108,111,99,107]
def dZ:lU:=[115,116,97,109,112]
def gT:lU:=[109,97,107,101,114]
def dw:lU:=[111,112,101,110,115]
def lh:lU:=[107,101,121]
def cD (w:lU):Int:=
 if w=iY then 0 else if w=fe then 0 else if w=eu then 0 else if w=fT then 0 else if w=dr then 0
 else if w=iH then 1 else if w=gX then 1 else if w=je then 1
 else if w=dZ then 2 else if w=gT then 5 else if w=dw then 11 else if w=lh then 12 else -1
def Qn (w:lU):Int:=if cD w<0 then 0 else (cD w).tmod 10+1
theorem Gf (w:lU):cD w= -1\/cD w=0\/cD w=1\/cD w=2\/cD w=5\/(cD w=11/\w=dw)\/(cD w=12/\w=lh):=by
 unfold cD;rcases Classical.em (w=iY) with h|h
 . simp only[if_pos h];simp[h]
 simp only[if_neg h];clear h;rcases Classical.em (w=fe) with h|h
 . simp only[if_pos h];simp[h]
 simp only[if_neg h];clear h;rcases Classical.em (w=eu) with h|h
 . simp only[if_pos h];simp[h]
 simp only[if_neg h];clear h;rcases Classical.em (w=fT) with h|h
 . simp only[if_pos h];simp[h]
 simp only[if_neg h];clear h;rcases Classical.em (w=dr) with h|h
 . simp only[if_pos h];simp[h]
 simp only[if_neg h];clear h;rcases Classical.em (w=iH) with h|h
 . simp only[if_pos h];simp[h]
 simp only[if_neg h];clear h;rcases Classical.em (w=gX) with h|h
 . simp only[if_pos h];simp[h]
 simp only[if_neg h];clear h;rcases Classical.em (w=je) with h|h
 . simp only[if_pos h];simp[h]
 simp only[if_neg h];clear h;rcases Classical.em (w=dZ) with h|h
 . simp only[if_pos h];simp[h]
 simp only[if_neg h];clear h;rcases Classical.em (w=gT) with h|h
 . simp only[if_pos h];simp[h]
 simp only[if_neg h];clear h;rcases Classical.em (w=dw) with h|h
 . simp only[if_pos h];simp[h]
 simp only[if_neg h];clear h;rcases Classical.em (w=lh) with h|h
 . simp only[if_pos h];simp[h]
 simp only[if_neg h];clear h;simp
theorem Gg:cD dw=11:=by decide
theorem MU:cD lh=12:=by decide
def ft (s:lU):List lU × lI × Bool:=
 if cD ((dm 32 s).headD [])<0\/((dm 32 s).length:Int)≠(cD ((dm 32 s).headD [])).tmod 10+1 then ([],[],false)
 else if 10<=cD ((dm 32 s).headD []) then (dm 32 s,[],true)
 else if (((dm 32 s).drop 1).all λw=>(dW w).2)=true then (dm 32 s,((dm 32 s).drop 1).map λw=>(dW w).1,true)
 else ([],[],false)
theorem uf (w:lU):((qh w).2=true/\0<=(qh w).1/\w.length<=13)↔(dW w).2=true:=by
 constructor
 . rintro ⟨h1,h2,h3⟩;obtain ⟨q1,q2⟩:=BW h1;have hw:w=decDigits (qh w).1.toNat:=(by rw [←fh h2];exact q2);have:nDigits (qh w).1.toNat<=13:=by
    have e:=congrArg List.length hw;rw[decDigits_length] at e;omega
   rw[hw,PV this]
 intro h;obtain ⟨h1,h2⟩:=tU h;have hl:w.length<=13:=by
  unfold dW at h;split at h
  . cases h
  omega
 have h64:jy (dW w).1:=by
  have hd:∀c∈w,48<=c.toNat/\c.toNat<=57:=by intro c hc;rw[fh h1] at h2;exact p5 _ c (by rw[←h2];exact hc)
  have hb:=sP w 0 hd;have hp:10^w.length<=10000000000000:=Kk hl;have hv:(dW w).1=(jQ 0 w:Nat):=by
   unfold dW at h ⊢;split
   . rename_i hc;rw[if_pos hc] at h;cases h
   rename_i hc;rw[if_neg hc] at h;split
   . rfl
   rename_i hd2;rw[if_neg hd2] at h;cases h
  rw[hv];unfold jy;omega
 have e:=Mn h64;rw[←h2] at e;rw[e];exact ⟨rfl,h1,hl⟩
theorem Dm {w:lU}(h:(dW w).2=true):(qh w).1=(dW w).1:=by
 obtain ⟨h1,h2,h3⟩:=(uf w).2 h;obtain ⟨q1,q2⟩:=BW h1;obtain ⟨v1,v2⟩:=tU h;have h64:jy (dW w).1:=by
  have hd:∀c∈w,48<=c.toNat/\c.toNat<=57:=by intro c hc;rw[fh v1] at v2;exact p5 _ c (by rw[←v2];exact hc)
  have hb:=sP w 0 hd;have hp:10^w.length<=10000000000000:=Kk h3;have hv:(dW w).1=(jQ 0 w:Nat):=by
   unfold dW at h ⊢;split
   . rename_i hc;rw[if_pos hc] at h;cases h
   rename_i hc;rw[if_neg hc] at h;split
   . rfl
   rename_i hd2;rw[if_neg hd2] at h;cases h
  rw[hv];unfold jy;omega
 exact PU q1 h64 (q2.symm.trans v2)
theorem MV (w:lU):Fn pG 70 [eS w] true (· =eI (cD w)):=by
 refine Fn.au 22 [.tmp 2] func70 (hv:=?_);unfold cD iY fe eu fT dr iH gX je dZ gT dw lh;simp -dsimp -implicitDefEqProofs only[go_sem];repeat' (refine Br.intro (λ_=>?_) (λ_=>?_)<;>try simp -dsimp -implicitDefEqProofs only[go_sem, *])
 all_goals first
  |(simp only[decide_eq_true_eq,decide_eq_false_iff_not] at*;subst_vars;simp;done)
  |(simp only[decide_eq_false_iff_not] at*;simp[*];done)
  |skip
theorem Gh (w:lU):Fn pG 68 [eS w] true (· =eI (Qn w)):=by
 refine Fn.au 20 [.tmp 2] func68 (hv:=?_)
 have hk:Qn w=if w=iY then 1 else if w=fe then 1 else if w=eu then 1 else if w=fT then 1 else if w=dr then 1
  else if w=iH then 2 else if w=gX then 2 else if w=je then 2
  else if w=dw then 2 else if w=lh then 3 else if w=dZ then 3 else if w=gT then 6 else 0:=by
  unfold Qn cD;rcases Classical.em (w=iY) with h|h
  . subst h;decide
  simp only[if_neg h];clear h;rcases Classical.em (w=fe) with h|h
  . subst h;decide
  simp only[if_neg h];clear h;rcases Classical.em (w=eu) with h|h
  . subst h;decide
  simp only[if_neg h];clear h;rcases Classical.em (w=fT) with h|h
  . subst h;decide
  simp only[if_neg h];clear h;rcases Classical.em (w=dr) with h|h
  . subst h;decide
  simp only[if_neg h];clear h;rcases Classical.em (w=iH) with h|h
  . subst h;decide
  simp only[if_neg h];clear h;rcases Classical.em (w=gX) with h|h
  . subst h;decide
  simp only[if_neg h];clear h;rcases Classical.em (w=je) with h|h
  . subst h;decide
  simp only[if_neg h];clear h;rcases Classical.em (w=dZ) with h|h
  . subst h;decide
  simp only[if_neg h];clear h;rcases Classical.em (w=gT) with h|h
  . subst h;decide
  simp only[if_neg h];clear h;rcases Classical.em (w=dw) with h|h
  . subst h;decide
  simp only[if_neg h];clear h;rcases Classical.em (w=lh) with h|h
  . subst h;decide
  simp only[if_neg h];clear h;decide
 rw[hk];clear hk;unfold iY fe eu fT dr iH gX je dZ gT dw lh;simp -dsimp -implicitDefEqProofs only[go_sem];repeat' (refine Br.intro (λ_=>?_) (λ_=>?_)<;>try simp -dsimp -implicitDefEqProofs only[go_sem, *])
 all_goals first
  |(simp only[decide_eq_true_eq,decide_eq_false_iff_not] at*;subst_vars;simp;done)
  |(simp only[decide_eq_false_iff_not] at*;simp[*];done)
  |skip
theorem Gi {s:lU}:(dm 32 s)[0]? =some ((dm 32 s).headD []):=by
 have h:=tV 32 s;cases hs:dm 32 s with
 |nil=>exact absurd hs h
 |cons x r=>rfl
set_option maxHeartbeats 2000000 in
theorem I8 (s:lU)(hs:s.length<=1048576):Fn pG 44 [eS s] true (· = .aX [nC (ft s).1,aM (ft s).2.1,eB (ft s).2.2]):=by
 refine Fn.au 54 [.tmp 2,.tmp 3,.tmp 4] func44 (hv:=?_);have hpl:=iX 32 s;have hsl:=jF 32 s;have g0:=Gi (s:=s);have hne:=tV 32 s
 have hP:ft s=if cD ((dm 32 s).headD [])<0\/((dm 32 s).length:Int)≠(cD ((dm 32 s).headD [])).tmod 10+1 then ([],[],false)
  else if 10<=cD ((dm 32 s).headD []) then (dm 32 s,[],true)
  else if (((dm 32 s).drop 1).all λw=>(dW w).2)=true then (dm 32 s,((dm 32 s).drop 1).map λw=>(dW w).1,true)
  else ([],[],false):=rfl
 rw[hP];clear hP;have hki:=Gf ((dm 32 s).headD []);have hck:=MV ((dm 32 s).headD []);simp -dsimp -implicitDefEqProofs only[go_sem];refine aa (y1 s 32 (by omega)) ?_;generalize dm 32 s=ws at*
 have h1:1<=ws.length:=by cases ws with
  |nil=>exact absurd rfl hne
  |cons x r=>simp
 generalize ws.headD []=w0 at*;generalize cD w0=k at*;have hk2: -1<=k/\k<=12:=by omega
 have hkt:jy (k.tmod 10)/\jy (k.tmod 10+1):=by have h1:=Int.tmod_lt_of_pos k (show (0:Int)<10 by decide);rcases hki with rfl|rfl|rfl|rfl|rfl|⟨rfl,_⟩|⟨rfl,_⟩<;>(unfold jy;decide)
 simp -dsimp -implicitDefEqProofs only[go_sem,g0];((with_reducible and_intros);all_goals try omega);refine aa hck ?_;rcases hk0:decide (k<0) with _|_
 rotate_left
 . rw[if_pos (.inl (oT hk0))];simp -dsimp -implicitDefEqProofs only[go_sem,hk0]
 have Y_:=of_decide_eq_false hk0;rcases hlen:((ws.length:Int) != k.tmod 10+1) with _|_
 rotate_left
 . rw[if_pos (.inr (by simpa using hlen))];simp -dsimp -implicitDefEqProofs only[go_sem,hk0,hlen];((with_reducible and_intros);all_goals try omega);all_goals first|exact hkt.2|(first|omega|(refine ⟨?_,?_⟩<;>omega)|exact rfl|(simp;done)|skip)
 rw [if_neg (by rintro (q|q);· exact Y_ q
                exact q (by simpa using hlen))]
 rcases h10:decide (k<10) with _|_
 . have Ns:=of_decide_eq_false h10;rw [if_pos (by omega)];have hl2:(ws.length:Int)≥2:=by
    have e:(ws.length:Int)=k.tmod 10+1:=(by simpa using hlen);rcases hki with rfl|rfl|rfl|rfl|rfl|⟨rfl,_⟩|⟨rfl,_⟩<;>simp at* <;>omega
   have d1:decide ((1:Int)<ws.length)=true:=dT (by omega);simp -dsimp -implicitDefEqProofs only[go_sem,hk0,hlen];((with_reducible and_intros);all_goals try omega);all_goals first|exact hkt.2|skip
   refine aj.up [5,6] [30,43,50,51] [27] 0 (λ_=>True) (λi=>[(7,.ref 27 0 0 0),(8,eI 1)]) (λi=>[(27,.row 0 ⟨1,false⟩ true [])]) trivial ?_ rfl (λi hi _=>absurd hi (DO _)) (λ_=>?_)
   . simp -dsimp -implicitDefEqProofs only[go_sem]
   simp -dsimp -implicitDefEqProofs only[go_sem,d1,h10];((with_reducible and_intros);all_goals try exact rfl);all_goals (first|(simp;done)|skip)
 have Ns:=oT h10;rw[if_neg (by omega)];simp -dsimp -implicitDefEqProofs only[go_sem,hk0,hlen];((with_reducible and_intros);all_goals try omega);all_goals first|exact hkt.2|skip
 refine aj.up [5,6] [30,43,50,51] [27] (ws.length-1) (λi=>(((ws.drop 1).take i).all λw=>(dW w).2)=true) (λi=>[(7,.ref 27 0 0 i),(8,eI ((i:Int)+1))]) (λi=>[(27,.row 0 ⟨1,false⟩ true ((((ws.drop 1).take i).map λw=>(dW w).1).map eI))]) rfl ?_ rfl (λi hi hI=>?_) (λhI=>?_)
 . simp -dsimp -implicitDefEqProofs only[go_sem];all_goals exact rfl
 . have hi1:i+1<ws.length:=(by omega);have hid:i<(ws.drop 1).length:=(by simp;omega);have gi:ws[i+1]? =some (ws.drop 1)[i]:=by
    rw[List.getElem_drop,←uq8,Nat.add_comm 1 i]
   have hw:=hpl _ (List.mem_of_getElem? gi);have dl:decide ((i:Int)+1<ws.length)=true:=dT (by omega);have ht:((i:Int)+1).toNat=i+1:=(by omega);have cP:=dA (λw=>(dW w).2) (ws.drop 1) i hid;have hno:=λh=>gQ (p:=λw=>(dW w).2) hid h;have htk:(ws.drop 1).take (i+1)=(ws.drop 1).take i++[(ws.drop 1)[i]]:=eZ hid;have hol:(((ws.drop 1).take i).map λw=>(dW w).1).length=i:=(by simp;omega);rw[htk] at cP ⊢;rw[bp,eR];clear htk;generalize (ws.drop 1)[i]=w at*;have hcv:=I3 w (by omega);generalize dW w=v at*;generalize ((ws.drop 1).take i).map (λw=>(dW w).1)=q at*;rcases hv:v.2 with _|_
   . have hz:=hno hv;rw[if_neg (by rw[hz];decide)];simp -dsimp -implicitDefEqProofs only[go_sem,dl,h10,ht,gi];((with_reducible and_intros);all_goals try omega);refine aa hcv ?_;simp -dsimp -implicitDefEqProofs only[go_sem,hv]
   simp -dsimp -implicitDefEqProofs only[go_sem,dl,h10,ht,gi];((with_reducible and_intros);all_goals try omega);refine aa hcv ?_;simp -dsimp -implicitDefEqProofs only[go_sem,hv];((with_reducible and_intros);all_goals try first|omega|(refine ⟨?_,?_⟩<;>omega)|exact rfl);all_goals first|(rw[cP,hI,hv];rfl)|(rw[←hol,nB];simp;done)|skip
 have dl:decide (((ws.length-1:Nat):Int)+1<ws.length)=false:=dF (by omega);have hdl:(ws.drop 1).take (ws.length-1)=ws.drop 1:=cm (by simp);rw[hdl] at hI ⊢;rw[if_pos hI];have hol:((ws.drop 1).map λw=>(dW w).1).length=ws.length-1:=by simp
 generalize (ws.drop 1).map (λw=>(dW w).1)=q at*;rw[←hol] at dl ⊢;simp -dsimp -implicitDefEqProofs only[go_sem,dl];((with_reducible and_intros));all_goals (first|(simp;done)|skip)
theorem Qo {w:lU}(h:10<=cD w):w=lh\/w=dw:=by
 rcases Gf w with q|q|q|q|q|⟨q,e⟩|⟨q,e⟩
 all_goals first|omega|exact .inr e|exact .inl e
theorem MW {w:lU}(h:cD w<10):w≠lh/\w≠dw:=by
 refine ⟨?_,?_⟩
 . rintro rfl;rw[MU] at h;omega
 rintro rfl;rw[Gg] at h;omega
set_option maxHeartbeats 2000000 in
theorem I9 (s:lU)(hs:s.length<=1048576):Fn pG 43 [eS s] true (· = .aX [nC (ft s).1,aM (ft s).2.1,eB (ft s).2.2]):=by
 refine Fn.au 62 [.tmp 2,.tmp 3,.tmp 4] func43 (hv:=?_);have hpl:=iX 32 s;have hsl:=jF 32 s;have g0:=Gi (s:=s);have hne:=tV 32 s
 have hP:ft s=if cD ((dm 32 s).headD [])<0\/((dm 32 s).length:Int)≠(cD ((dm 32 s).headD [])).tmod 10+1 then ([],[],false)
  else if 10<=cD ((dm 32 s).headD []) then (dm 32 s,[],true)
  else if (((dm 32 s).drop 1).all λw=>(dW w).2)=true then (dm 32 s,((dm 32 s).drop 1).map λw=>(dW w).1,true)
  else ([],[],false):=rfl
 rw[hP];clear hP;have hck:=Gh ((dm 32 s).headD []);have hkk:=λh=>Qo (w:=(dm 32 s).headD []) h;have hkn:=λh=>MW (w:=(dm 32 s).headD []) h;have hcn:Qn ((dm 32 s).headD [])=if cD ((dm 32 s).headD [])<0 then 0 else (cD ((dm 32 s).headD [])).tmod 10+1:=rfl
 simp -dsimp -implicitDefEqProofs only[go_sem];refine aa (Kf s 32 (by omega)) ?_;generalize dm 32 s=ws at*
 have h1:1<=ws.length:=by cases ws with
  |nil=>exact absurd rfl hne
  |cons x r=>simp
 generalize ws.headD []=w0 at*;generalize cD w0=k at*;generalize Qn w0=n at*;simp -dsimp -implicitDefEqProofs only[go_sem,g0];((with_reducible and_intros);all_goals try omega);refine aa hck ?_;rcases hlen:((ws.length:Int) != n) with _|_
 rotate_left
 . have hl':(ws.length:Int)≠n:=(by simpa using hlen)
   rw [if_pos (by
    by_cases h0:k<0
    . exact .inl h0
    rw[if_neg h0] at hcn
    exact .inr (by rw[←hcn];exact hl'))]
   simp -dsimp -implicitDefEqProofs only[go_sem,hlen]
 have hl':(ws.length:Int)=n:=by simpa using hlen
 have hk0:¬k<0:=by intro h0;rw[if_pos h0] at hcn;omega
 rw[if_neg hk0] at hcn
 rw [if_neg (by rintro (q|q);· exact hk0 q
                exact q (by rw[←hcn];exact hl'))]
 unfold lh dw at hkk hkn;rcases h10:decide (10<=k) with _|_
 . have Ns:=of_decide_eq_false h10;obtain ⟨q1,q2⟩:=hkn (by omega);have d1:decide (w0=[107,101,121])=false:=dF q1;have d2:decide (w0=[111,112,101,110,115])=false:=dF q2;have lC:(1:Int).toNat=1:=rfl;rw [if_neg Ns];clear hkk hkn hck hcn;simp -dsimp -implicitDefEqProofs only [go_sem,hlen,g0,d1,d2];((with_reducible and_intros);all_goals try omega);refine aj.up [5,33,34] [41,52,57,58] [13] (ws.length-1) (λi=>(((ws.drop 1).take i).all λw=>(dW w).2)=true) (λi=>[(6,.ref 13 0 0 i),(35,eI i)]) (λi=>[(13,.row 0 ⟨1,false⟩ true ((((ws.drop 1).take i).map λw=>(dW w).1).map eI))]) rfl ?_ rfl (λi hi hI=> ?_) (λhI=> ?_)
   . simp -dsimp -implicitDefEqProofs only[go_sem]
   . have hi1:i+1<ws.length:=(by omega);have hid:i<(ws.drop 1).length:=(by simp;omega);have gi:ws[1+i]? =some (ws.drop 1)[i]:=by
      rw[List.getElem_drop,←uq8]
     have hw:=hpl _ (List.mem_of_getElem? gi);have dl:=aE hi;have cP:=dA (λw=>(dW w).2) (ws.drop 1) i hid;have hno:=λh=>gQ (p:=λw=>(dW w).2) hid h;have htk:(ws.drop 1).take (i+1)=(ws.drop 1).take i++[(ws.drop 1)[i]]:=eZ hid;have hol:(((ws.drop 1).take i).map λw=>(dW w).1).length=i:=(by simp;omega);rw[htk] at cP ⊢;rw[bp,eR];clear htk;generalize (ws.drop 1)[i]=w at*;have hcv:=Qg w (by omega);have TA:=uf w;have heq:=λh=>Dm (w:=w) h;generalize ((ws.drop 1).take i).map (λw=>(dW w).1)=q at*;generalize dW w=v at*;generalize qh w=u at*;rcases hu:u.2 with _|_
     . have hv:v.2=false:=by
        cases hv2:v.2 with
        |false=>rfl
        |true=>have:=(TA.2 hv2).1;rw[hu] at this;cases this
       have hz:=hno hv;rw[if_neg (by rw[hz];decide)];simp -dsimp -implicitDefEqProofs only[go_sem,dl,gi];((with_reducible and_intros);all_goals try omega);refine aa hcv ?_;simp -dsimp -implicitDefEqProofs only[go_sem,hu]
     rcases hn0:decide (u.1<0) with _|_
     rotate_left
     . have ZM:=oT hn0;have hv:v.2=false:=by
        cases hv2:v.2 with
        |false=>rfl
        |true=>have:=(TA.2 hv2).2.1;omega
       have hz:=hno hv;rw[if_neg (by rw[hz];decide)];simp -dsimp -implicitDefEqProofs only[go_sem,dl,gi];((with_reducible and_intros);all_goals try omega);refine aa hcv ?_;simp -dsimp -implicitDefEqProofs only[go_sem,hu,hn0]
     rcases TB:decide ((w.length:Int)>13) with _|_
     rotate_left
     . have Zo:=oT TB;have hv:v.2=false:=by
        cases hv2:v.2 with
        |false=>rfl
        |true=>have:=(TA.2 hv2).2.2;omega
       have hz:=hno hv;rw[if_neg (by rw[hz];decide)];simp -dsimp -implicitDefEqProofs only[go_sem,dl,gi];((with_reducible and_intros);all_goals try omega);refine aa hcv ?_;simp -dsimp -implicitDefEqProofs only[go_sem,hu,hn0,TB]
     have hv:v.2=true:=TA.1 ⟨hu,by have:=of_decide_eq_false hn0;omega,by have:=of_decide_eq_false TB;omega⟩;have huv:=heq hv;rw[←huv];simp -dsimp -implicitDefEqProofs only[go_sem,dl,gi];((with_reducible and_intros);all_goals try omega);refine aa hcv ?_;simp -dsimp -implicitDefEqProofs only[go_sem,hu,hn0,TB];((with_reducible and_intros);all_goals try first|omega|(refine ⟨?_,?_⟩<;>omega)|exact rfl);all_goals first|(rw[cP,hI,hv];rfl)|(rw[←hol,nB];simp;done)|skip
   have hdl:(ws.drop 1).take (ws.length-1)=ws.drop 1:=cm (by simp);rw[hdl] at hI ⊢;rw[if_pos hI];have hol:((ws.drop 1).map λw=>(dW w).1).length=ws.length-1:=(by simp);generalize (ws.drop 1).map (λw=>(dW w).1)=q at*;rw[←hol];simp -dsimp -implicitDefEqProofs only[go_sem,aA];((with_reducible and_intros));all_goals first|(simp;done)|(first|omega|(refine ⟨?_,?_⟩<;>omega)|exact rfl|(simp;done)|skip)
 have Ns:=oT h10;rw[if_pos Ns];rcases hkk Ns with q1|q1
 . have d1:decide (w0=[107,101,121])=true:=dT q1;simp -dsimp -implicitDefEqProofs only[go_sem,hlen,g0,d1];((with_reducible and_intros);all_goals try omega);all_goals (first|(simp;done)|skip)
 have d1:decide (w0=[107,101,121])=false:=dF (by rw[q1];decide);have d2:decide (w0=[111,112,101,110,115])=true:=dT q1;simp -dsimp -implicitDefEqProofs only[go_sem,hlen,g0,d1,d2];((with_reducible and_intros);all_goals try omega);all_goals (first|(simp;done)|skip)
def oq (s:lU):lU:=if s.drop (s.length-1)=[10] then s.take (s.length-1) else s
theorem Gj (s:lU)(h:s.length<=1048576):Fn pG 111 [eS s,eS [10]] true (· =eB (decide (s.drop (s.length-1)=[10]))):=by
 refine Fn.au 21 [.tmp 4] func111 (hv:=?_);by_cases h0:s=[]
 . subst h0;have d0:decide ((0:Int)≥((1:Nat):Int))=false:=rfl;simp -dsimp -implicitDefEqProofs only[go_sem,d0];all_goals try exact rfl
 have hl:=List.length_pos_iff.2 h0;have d0:decide ((s.length:Int)≥((1:Nat):Int))=true:=dT (by omega);have e1:((s.length:Int)-((1:Nat):Int)).toNat=s.length-1:=by omega
 simp -dsimp -implicitDefEqProofs only[go_sem,d0,e1];((with_reducible and_intros);all_goals try first|omega|(refine ⟨?_,?_⟩<;>omega))
theorem zS (s:lU)(h:s.length<=1048576):Fn pG 82 [eS s,eS [10]] true (· =eS (oq s)):=by
 refine Fn.au 16 [.tmp 4] func82 (hv:=?_);have hc:=Gj s h;unfold oq;by_cases hs:s.drop (s.length-1)=[10]
 . rw [decide_eq_true hs] at hc;rw [if_pos hs];have hl:0<s.length:=by
    have:=congrArg List.length hs;rw[List.length_drop,List.length_singleton] at this;omega
   have e1:((s.length:Int)-((1:Nat):Int)).toNat=s.length-1:=(by omega);simp -dsimp -implicitDefEqProofs only[go_sem];refine aa hc ?_;simp -dsimp -implicitDefEqProofs only[go_sem,e1];((with_reducible and_intros);all_goals try first|omega|(refine ⟨?_,?_⟩<;>omega))
 rw[decide_eq_false hs] at hc;rw[if_neg hs];simp -dsimp -implicitDefEqProofs only[go_sem];refine aa hc ?_;simp -dsimp -implicitDefEqProofs only[go_sem]
theorem Dn (s:lU)(h:s.length<=1048576):Fn pG 59 [eS s,eS [10]] true (· =eS (oq s)):=by refine Fn.au 8 [.tmp 4] func59 (hv:=?_);simp -dsimp -implicitDefEqProofs only[go_sem];refine aa (zS s h) ?_;simp -dsimp -implicitDefEqProofs only[go_sem]
def dx (s:lU):List lU:=if (dm 10 s).getD ((dm 10 s).length-1) []=[] then (dm 10 s).take ((dm 10 s).length-1) else dm 10 s
theorem qH {c:UInt8}:∀(a:lU),dm c (a++[c])=dm c a++[[]]
 | []=>by simp[dm]
 |b::a=>by
  have ih:=qH (c:=c) a;rw[List.cons_append,dm,dm,ih];by_cases hb:b=c
  . rw[if_pos hb,if_pos hb];rfl
  rw[if_neg hb,if_neg hb];have hne:=tV c a;cases hs:dm c a with
  |nil=>exact absurd hs hne
  |cons x r=>rfl
theorem Gk {c:UInt8}:∀(a:lU),(dm c a).getD ((dm c a).length-1) []=[]->a=[]\/∃b,a=b++[c]
 | [],_=>.inl rfl
 |b::a,h=>by
  right;have ih:=Gk (c:=c) a;have hne:=tV c a;rw[dm] at h;by_cases hb:b=c
  . rw [if_pos hb] at h;have h2:(dm c a).getD ((dm c a).length-1) []=[]:=by
     have hl:0<(dm c a).length:=List.length_pos_iff.2 hne;rw[dL,show (dm c a).length+1-1=((dm c a).length-1)+1 by omega,List.getD_cons_succ] at h;exact h
    rcases ih h2 with rfl|⟨d,rfl⟩
    . exact ⟨[],by rw[hb];rfl⟩
    exact ⟨b::d,rfl⟩
  rw[if_neg hb] at h;cases hs:dm c a with
  |nil=>exact absurd hs hne
  |cons x r=>
   rw[hs] at h;simp only at h;cases r with
   |nil=>simp at h
   |cons y z=>
    have h2:(dm c a).getD ((dm c a).length-1) []=[]:=by rw[hs];simpa using h
    rcases ih h2 with rfl|⟨d,rfl⟩
    . simp[dm] at hs
    exact ⟨b::d,rfl⟩
theorem I_ (s:lU):(if s=[] then [] else dm 10 (oq s))=dx s:=by
 by_cases h0:s=[]
 . subst h0;rw[if_pos rfl];rfl
 rw[if_neg h0];by_cases hd:s.drop (s.length-1)=[10]
 . have hs:s=s.take (s.length-1)++[10]:=by
    conv=>lhs;rw[←List.take_append_drop (s.length-1) s,hd]
   have ht:oq s=s.take (s.length-1):=(by rw[oq,if_pos hd]);rw[ht];generalize s.take (s.length-1)=a at*;subst hs;rw[dx,qH];have hl:(dm 10 a++[[]]).length-1=(dm 10 a).length:=(by simp);rw[hl,if_pos (by simp[uq7]),List.take_left'];rfl
 have ht:oq s=s:=by rw[oq,if_neg hd]
 rw[ht,dx,if_neg];intro e;rcases Gk s e with h|⟨b,rfl⟩
 . exact h0 h
 apply hd;simp
theorem ug:∀s:lU,(dm 10 s).length<=s.length+1:=by
 intro s;induction s with
 |nil=>simp[dm]
 |cons b s ih=>
  rw[dm];split
  . simp;omega
  split
  . rename_i h;rw[h] at ih;simpa using (by simp at ih ⊢;omega)
  simp
theorem rB (s:lU):(dx s).length<=s.length+1/\∀l∈dx s,l.length<=s.length:=by
 have h2:=iX 10 s;unfold dx;split
 . exact ⟨by have:=ug s;simp;omega,λl hl=>h2 l (dh hl)⟩
 exact ⟨ug s,h2⟩
theorem rC (s:lU)(h:s.length<=1048576):Fn pG 30 [eS s] true (· =nC (dx s)):=by
 refine Fn.au 19 [.tmp 2] func30 (hv:=?_);have hc:=y1 s 10 h;have hne:=tV 10 s;have hLl:=ug s;unfold dx;generalize dm 10 s=L at*;have hl:0<L.length:=List.length_pos_iff.2 hne;have e1:((L.length:Int)-1).toNat=L.length-1:=by omega
 have g1:L[L.length-1]? =some (L.getD (L.length-1) []):=by rw[uq7,uq8 (by omega)];rfl
 generalize L.getD (L.length-1) []=z at*;by_cases hz:z=[]
 . subst hz;rw[if_pos rfl];simp -dsimp -implicitDefEqProofs only[go_sem];refine aa hc ?_;simp -dsimp -implicitDefEqProofs only[go_sem,e1,g1];((with_reducible and_intros);all_goals try first|omega|(refine ⟨?_,?_⟩<;>omega));all_goals first|(simp;done)|(first|omega|(refine ⟨?_,?_⟩<;>omega)|exact rfl|(simp;done)|skip)
 have dz:decide (z=[])=false:=dF hz;rw[if_neg hz];simp -dsimp -implicitDefEqProofs only[go_sem];refine aa hc ?_;simp -dsimp -implicitDefEqProofs only[go_sem,e1,g1,dz];((with_reducible and_intros);all_goals try first|omega|(refine ⟨?_,?_⟩<;>omega));all_goals first|(simp;done)|(first|omega|(refine ⟨?_,?_⟩<;>omega)|exact rfl|(simp;done)|skip)
theorem Cg (s:lU)(h:s.length<=1048576):Fn pG 28 [eS s] true (· =eB (decide (s.length<=3000)&&decide ((dx s).length<=50))):=by
 refine Fn.au 12 [.tmp 2] func28 (hv:=?_);have hc:=rC s h;rcases d1:decide ((s.length:Int)<=3000) with _|_
 . have e1:decide (s.length<=3000)=false:=dF (by have:=of_decide_eq_false d1;omega);rw[e1,uq1];simp -dsimp -implicitDefEqProofs only[go_sem,d1]
 have e1:decide (s.length<=3000)=true:=dT (by have:=oT d1;omega);have e2:decide (((dx s).length:Int)<=50)=decide ((dx s).length<=50):=by rw[decide_eq_decide];omega
 rw[e1,uq3,←e2];simp -dsimp -implicitDefEqProofs only[go_sem,d1];refine aa hc ?_;simp -dsimp -implicitDefEqProofs only[go_sem]
def Qp (i:Int):lU:=([[48],[35],[46],[47],[32],[97],[45],[10]]:List lU).getD i.toNat []
theorem Gl (i:Int):(Qp i).length<=1:=by
 unfold Qp;rcases Nat.lt_or_ge i.toNat 8 with h|h
 . match i.toNat,h with
   |0,_=>decide
   |1,_=>decide
   |2,_=>decide
   |3,_=>decide
   |4,_=>decide
   |5,_=>decide
   |6,_=>decide
   |7,_=>decide
 rw[uq7,List.getElem?_eq_none (by simpa using h)];simp
def YI (bs:lU)(t:lU)(a:Int × Src)(b:Int × Src):lU × Src:=
 if b.1=0 then (t.take a.1.toNat,b.2)
 else if b.1=1 then (t.take a.1.toNat++Qp (nx bs 8 b.2).1++t.drop a.1.toNat,(nx bs 8 b.2).2)
 else if b.1=2/\a.1<t.length then (t.take a.1.toNat++t.drop (a.1.toNat+1),b.2)
 else (t,b.2)
def pB (bs:lU)(t:lU)(s:Src):lU × Src:=YI bs t (nx bs ((t.length:Int)+1) s) (nx bs 8 (nx bs ((t.length:Int)+1) s).2)
theorem Xp (bs t:lU){s:Src}(h:dO s):0<=(nx bs ((t.length:Int)+1) s).1/\(nx bs ((t.length:Int)+1) s).1<=t.length:=by
 have h1:=dq bs ((t.length:Int)+1) h;refine ⟨h1.1,?_⟩;by_cases hz:(t.length:Int)+1<=1
 . rw[h1.2.1 hz];omega
 have:=h1.2.2.1 (by omega);omega
theorem MX (bs t:lU){s:Src}(h:dO s):dO (pB bs t s).2/\(pB bs t s).1.length<=t.length+1:=by
 have h1:=Xp bs t h;have o1:=(dq bs ((t.length:Int)+1) h).2.2.2;unfold pB;generalize nx bs ((t.length:Int)+1) s=a at*;have o2:=(dq bs 8 o1).2.2.2;generalize nx bs 8 a.2=b at*;have o3:=(dq bs 8 o2).2.2.2;have hw:=Gl (nx bs 8 b.2).1;unfold YI;split
 . exact ⟨o2,by simp;omega⟩
 split
 . exact ⟨o3,by simp;omega⟩
 split
 . exact ⟨o2,by simp;omega⟩
 exact ⟨o2,by dsimp only;omega⟩
set_option maxHeartbeats 8000000 in
theorem Gm (v:Nat)(bs t:lU)(s:Src)(h:dO s)(hl:bs.length<=4096)(ht:t.length<=1000000):
 oD pG 42 [ki v bs s] [.ptr 1000000000 v 0 0,eS t] (λx io=>x=eS (pB bs t s).1/\io=[ki v bs (pB bs t s).2]):=by
 refine oD.cT 48 [.tmp 4] func42 (hv:= ?_);obtain ⟨res,hr⟩:∃res,pB bs t s=res:=⟨_,rfl⟩;rw [hr];unfold pB YI at hr;have h1:=dq bs ((t.length:Int)+1) h;have c1:=λv=>bu v bs ((t.length:Int)+1) s h hl;have hk:0<=(nx bs ((t.length:Int)+1) s).1/\(nx bs ((t.length:Int)+1) s).1<=t.length:=by
  refine ⟨h1.1,?_⟩;by_cases hz:(t.length:Int)+1<=1
  . rw[h1.2.1 hz];omega
  have:=h1.2.2.1 (by omega);omega
 have o1:=h1.2.2.2;clear h1;generalize nx bs ((t.length:Int)+1) s=a at*;have h2:=dq bs 8 o1;have c2:=λv=>bu v bs 8 a.2 o1 hl;generalize nx bs 8 a.2=b at*;have o2:=h2.2.2.2;clear h2;obtain ⟨n,hn⟩:∃n:Nat,a.1=n:=⟨a.1.toNat,by omega⟩;rw[hn] at hk c1 hr;rw[Int.toNat_natCast] at hr;have hk1:n<=t.length:=by omega
 simp -dsimp -implicitDefEqProofs only[go_sem];with_reducible and_intros
 all_goals try (first|(refine ⟨?_,?_⟩<;>omega)|(simp;done))
 (refine aR [1000000000] ?_;simp -dsimp -implicitDefEqProofs only[go_sem];refine aN (c1 _) ?_;simp -dsimp -implicitDefEqProofs only[go_sem]);(refine aR [1000000000] ?_;simp -dsimp -implicitDefEqProofs only[go_sem];refine aN (c2 _) ?_;simp -dsimp -implicitDefEqProofs only[go_sem]);rcases hb0:(b.1==0) with _|_
 . rw [if_neg (by simpa using hb0)] at hr;simp -dsimp -implicitDefEqProofs only [go_sem];rcases hb1:(b.1==1) with _|_
   . rw [if_neg (by simpa using hb1)] at hr;simp -dsimp -implicitDefEqProofs only [go_sem];rcases hb2:(b.1==2) with _|_
     . rw [if_neg (by have:b.1≠2:=by simpa using hb2
                      exact λh=>this h.1)] at hr
       subst hr;simp -dsimp -implicitDefEqProofs only[go_sem]
     rcases hlt:decide ((n:Int)<(t.length:Int)) with _|_
     . rw[if_neg (λh=>of_decide_eq_false hlt h.2)] at hr;subst hr;simp -dsimp -implicitDefEqProofs only[go_sem,hlt]
     have Rc:=oT hlt;rw[if_pos ⟨by simpa using hb2,Rc⟩] at hr;subst hr;have e1:((n:Int)+1).toNat=n+1:=(by omega);simp -dsimp -implicitDefEqProofs only[go_sem,hlt];refine aj.draw mixed rfl ?_;simp -dsimp -implicitDefEqProofs only[go_sem,e1];with_reducible and_intros
     all_goals try first|(first|omega|(refine ⟨?_,?_⟩<;>omega)|exact rfl|(simp;done))|(simp;omega)
   rw[if_pos (by simpa using hb1)] at hr;simp -dsimp -implicitDefEqProofs only[go_sem];have h3:=dq bs 8 o2;have c3:=λv=>bu v bs 8 b.2 o2 hl;generalize nx bs 8 b.2=d at*;have o3:=h3.2.2.2;have d1:=h3.1;have d2:=h3.2.2.1 (by omega);clear h3;refine aj.draw mixed rfl ?_;simp -dsimp -implicitDefEqProofs only[go_sem];with_reducible and_intros
   all_goals try (first|omega|(simp;done))
   (refine tH [1000000000] rfl ?_;simp -dsimp -implicitDefEqProofs only[go_sem];refine o5 (c3 _) ?_;simp -dsimp -implicitDefEqProofs only[go_sem]);with_reducible and_intros
   all_goals try (first|omega|(simp;done))
   subst hr;have hwl:=Gl d.1;have hw:∀i,i<8->([AV.val (.string ⟨#[48]⟩),AV.val (.string ⟨#[35]⟩),AV.val (.string ⟨#[46]⟩),AV.val (.string ⟨#[47]⟩),AV.val (.string ⟨#[32]⟩),AV.val (.string ⟨#[97]⟩),AV.val (.string ⟨#[45]⟩),AV.val (.string ⟨#[10]⟩)]:lA)[i]? =some (eS (([[48],[35],[46],[47],[32],[97],[45],[10]]:List lU).getD i [])):=λi hi=>by
    match i,hi with
    |0,_=>rfl
    |1,_=>rfl
    |2,_=>rfl
    |3,_=>rfl
    |4,_=>rfl
    |5,_=>rfl
    |6,_=>rfl
    |7,_=>rfl
   have w2:=hw d.1.toNat (by omega);clear hw;change _=some (eS (Qp d.1)) at w2;generalize Qp d.1=w at*;simp -dsimp -implicitDefEqProofs only[go_sem,w2];with_reducible and_intros
   all_goals try first|(first|omega|exact rfl|(simp;done))|(simp;omega)
 rw[if_pos (by simpa using hb0)] at hr;subst hr;simp -dsimp -implicitDefEqProofs only[go_sem];with_reducible and_intros
 all_goals try first|(first|omega|(simp;done))|(simp;omega)
theorem Wx {m:aJ}(hm:aU m=true){k:lI}(h:qG m k):k≠[]:=by have ⟨⟨zy,zz⟩,hd1,hd2⟩:=aI hm;have:=h.len;intro hk;rw[hk] at this;simp at this;omega
theorem MY {m:aJ}(hm:aU m=true):(bx m).length<=262144:=by have ⟨⟨zy,zz⟩,hd1,hd2⟩:=aI hm;have:(bx m).length<=8^6:=Nat.le_trans (ko m hm _ _) (Nat.pow_le_pow_right (by decide) (by omega));omega
def lZ (m:aJ)(se sec:Int):Int:=if aU m=true then if bA se 0 25=true/\bA sec 0 (iK m-1)=true then 0 else 2 else 1
def j5 (m:aJ)(key:lI)(se sec:Int):lU × Int:=
 if lZ m se sec=0 then if fault m key=0 then (ue (itoa (iK m)).length se ((cG m key key.length+sec).tmod (iK m)),0) else ([],2) else ([],lZ m se sec)
theorem Qq (m:aJ):iK m=(bx m).length:=by unfold iK;rw[P8]
theorem rD {m:aJ}(hm:aU m=true):0<=iK m/\iK m<=262144:=by have:=MY hm;rw[Qq];omega
theorem Qr {m:aJ}{se sec:Int}(h:lZ m se sec=0):aU m=true/\(0<=se/\se<=25)/\0<=sec/\sec<iK m:=by
 unfold lZ at h;split at h
 . rename_i hm;split at h
   . rename_i hi;simp only[bA,uq0,decide_eq_true_eq] at hi;exact ⟨hm,by omega,by omega,by omega⟩
   omega
 omega
theorem MZ (m:aJ)(se sec:Int):Fn pG 151 [kj m,eI se,eI sec] true (· =eI (lZ m se sec)):=by
 refine Fn.au 21 [.tmp 6] func151 (hv:=?_);have lz:=fC m;unfold lZ;rcases hm:aU m with _|_
 . rw[hm] at lz;simp only[uq2,if_false];clear hm;simp -dsimp -implicitDefEqProofs only[go_sem];repeat' (refine aa (lz) ?_;try simp -dsimp -implicitDefEqProofs only[go_sem, *])
 have hcn:=lY m hm;have hb:=rD hm;have e:iK m=(lR m m.ae.toNat []:Nat):=rfl;rw[e] at hb ⊢;rw[hm] at lz;clear hm e;generalize lR m m.ae.toNat []=N at*;have i1:=jE se 0 25;have i2:=jE sec 0 ((N:Int)-1);simp only[if_true];generalize bA se 0 25=x at*;generalize bA sec 0 ((N:Int)-1)=y at*;cases x
 . simp only [uq2,false_and,if_false];simp -dsimp -implicitDefEqProofs only [go_sem];repeat' (refine aa (lz) ?_;try simp -dsimp -implicitDefEqProofs only [go_sem, *])
   repeat' (refine aa (i1) ?_;try simp -dsimp -implicitDefEqProofs only[go_sem, *])
 cases y
 . simp only [uq2,and_false,if_false];simp -dsimp -implicitDefEqProofs only [go_sem];repeat' (refine aa (lz) ?_;try simp -dsimp -implicitDefEqProofs only [go_sem, *])
   repeat' (refine aa (i1) ?_;try simp -dsimp -implicitDefEqProofs only[go_sem, *])
   repeat' (refine aa (hcn) ?_;try simp -dsimp -implicitDefEqProofs only[go_sem, *])
   ((with_reducible and_intros);all_goals try ((refine ⟨?_,?_⟩<;>omega)));repeat' (refine aa (i2) ?_;try simp -dsimp -implicitDefEqProofs only[go_sem, *])
 simp only[and_self,if_true];simp -dsimp -implicitDefEqProofs only[go_sem];repeat' (refine aa (lz) ?_;try simp -dsimp -implicitDefEqProofs only[go_sem, *])
 repeat' (refine aa (i1) ?_;try simp -dsimp -implicitDefEqProofs only[go_sem, *])
 repeat' (refine aa (hcn) ?_;try simp -dsimp -implicitDefEqProofs only[go_sem, *])
 ((with_reducible and_intros);all_goals try ((refine ⟨?_,?_⟩<;>omega)));repeat' (refine aa (i2) ?_;try simp -dsimp -implicitDefEqProofs only[go_sem, *])
theorem Gn (m:aJ):Fn pG 180 [kj m] true (· = .aX [eI (if aU m=true then iK m else 0),eI (if aU m=true then 0 else 1)]):=by
 refine Fn.au 9 [.tmp 2,.tmp 3] func180 (hv:=?_);have lz:=eV m;rcases hm:aU m with _|_
 . rw[hm] at lz;simp only[uq2,if_false];clear hm;simp -dsimp -implicitDefEqProofs only[go_sem];repeat' (refine aa (lz) ?_;try simp -dsimp -implicitDefEqProofs only[go_sem, *])
 have hcn:=vH m hm;rw[hm] at lz;simp only[if_true];clear hm;simp -dsimp -implicitDefEqProofs only[go_sem];repeat' (refine aa (lz) ?_;try simp -dsimp -implicitDefEqProofs only[go_sem, *])
 repeat' (refine aa (hcn) ?_;try simp -dsimp -implicitDefEqProofs only[go_sem, *])
 all_goals first|rfl|skip
theorem I' (m:aJ)(key:lI)(se sec:Int)(hk:key.length<=1048576):Fn pG 125 [kj m,aM key,eI se,eI sec] true (· = .aX [eS (j5 m key se sec).1,eI (j5 m key se sec).2]):=by
 refine Fn.au 42 [.tmp 8,.tmp 9] func125 (hv:=?_);have fw:=P_ m key hk;have h10:((1:Int) != 0)=true:=rfl;have h20:((2:Int) != 0)=true:=rfl;have h00:((0:Int) != 0)=false:=rfl;unfold j5 lZ;rcases hm:aU m with _|_
 . rw[hm] at fw;simp only[uq2,if_false,Int.reduceEq] at fw ⊢;clear hm;simp -dsimp -implicitDefEqProofs only[go_sem];repeat' (refine aa (fw) ?_;try simp -dsimp -implicitDefEqProofs only[go_sem, *])
 rw[hm] at fw;simp only[if_true] at fw ⊢;by_cases hf:fault m key=0
 . rw [if_pos hf] at fw ⊢;have hcn:=vH m hm;have hlt:=(Di hf).2;have hb:=jH m hm;have i1:=kY se 0 25;have i2:=kY sec 0 (iK m-1);have d1:bA se 0 25=true->0<=se/\se<=25:=(by simp [bA]);have d2:bA sec 0 (iK m-1)=true->0<=sec/\sec<=iK m-1:=(by simp [bA]);have e:iK m=(lR m m.ae.toNat []:Nat):=rfl;rw [e] at i2 d2 ⊢;have hst:=λa b=>Gc (lR m m.ae.toNat []) se ((cG m key key.length+sec).tmod (lR m m.ae.toNat []:Nat)) (by omega) a b
   have hbn:0<=sec->0<=(cG m key key.length+sec).tmod (lR m m.ae.toNat []:Nat)/\(cG m key key.length+sec).tmod (lR m m.ae.toNat []:Nat)<=1000000:=λh=>⟨Int.tmod_nonneg _ (by omega),by
    have:=Int.tmod_lt_of_pos (cG m key key.length+sec) (show 0<((lR m m.ae.toNat []:Nat):Int) by omega)
    omega⟩
   generalize lR m m.ae.toNat []=N at*;generalize cG m key key.length=r at*;have hN0:((N:Int)==0)=false:=beq_eq_false_iff_ne.2 (by omega);clear hm hf e;generalize bA se 0 25=x at*;generalize bA sec 0 ((N:Int)-1)=y at*;cases x
   . simp only [uq2,false_and,if_false,Int.reduceEq];clear hst hbn d1 d2;simp -dsimp -implicitDefEqProofs only [go_sem];repeat' (refine aa (fw) ?_;try simp -dsimp -implicitDefEqProofs only [go_sem, *])
     repeat' (refine aa (hcn) ?_;try simp -dsimp -implicitDefEqProofs only[go_sem, *])
     repeat' (refine aa (i1) ?_;try simp -dsimp -implicitDefEqProofs only[go_sem, *])
   cases y
   . simp only [uq2,and_false,if_false,Int.reduceEq];clear hst hbn d1 d2;simp -dsimp -implicitDefEqProofs only [go_sem];repeat' (refine aa (fw) ?_;try simp -dsimp -implicitDefEqProofs only [go_sem, *])
     repeat' (refine aa (hcn) ?_;try simp -dsimp -implicitDefEqProofs only[go_sem, *])
     repeat' (refine aa (i1) ?_;try simp -dsimp -implicitDefEqProofs only[go_sem, *])
     ((with_reducible and_intros);all_goals try ((refine ⟨?_,?_⟩<;>omega)));repeat' (refine aa (i2) ?_;try simp -dsimp -implicitDefEqProofs only[go_sem, *])
   simp only[and_self,if_true];have e1:=d1 rfl;have e2:=d2 rfl;have hst:=hst e1 (hbn e2.1);clear hbn d1 d2;generalize itoa (N:Int)=A at*;simp -dsimp -implicitDefEqProofs only[go_sem];repeat' (refine aa (fw) ?_;try simp -dsimp -implicitDefEqProofs only[go_sem, *])
   repeat' (refine aa (hcn) ?_;try simp -dsimp -implicitDefEqProofs only[go_sem, *])
   repeat' (refine aa (i1) ?_;try simp -dsimp -implicitDefEqProofs only[go_sem, *])
   ((with_reducible and_intros);all_goals try ((refine ⟨?_,?_⟩<;>omega)));repeat' (refine aa (i2) ?_;try simp -dsimp -implicitDefEqProofs only[go_sem, *])
   ((with_reducible and_intros);all_goals try first|omega|(refine ⟨?_,?_⟩<;>omega));repeat' (refine aa (hst) ?_;try simp -dsimp -implicitDefEqProofs only[go_sem, *])
 rw [if_neg hf] at fw;have hz:(if (if bA se 0 25=true/\bA sec 0 (iK m-1)=true then (0:Int) else 2)=0 then if fault m key=0 then (ue (itoa (iK m)).length se ((cG m key key.length+sec).tmod (iK m)),(0:Int)) else ([],2) else ([],if bA se 0 25=true/\bA sec 0 (iK m-1)=true then 0 else 2))=([],2):=by
  by_cases q:bA se 0 25=true/\bA sec 0 (iK m-1)=true
  . rw[if_pos q,if_pos rfl,if_neg hf]
  rw[if_neg q,if_neg (by omega)]
 rw[hz];clear hm hf hz;simp -dsimp -implicitDefEqProofs only[go_sem];repeat' (refine aa (fw) ?_;try simp -dsimp -implicitDefEqProofs only[go_sem, *])
theorem Ja (m:aJ)(key:lI)(se sec:Int)(hk:key.length<=1048576):Fn pG 107 [kj m,aM key,eI se,eI sec] true (· = .aX [eS (j5 m key se sec).1,eI (j5 m key se sec).2]):=by
 refine Fn.au 37 [.tmp 8,.tmp 9] func107 (hv:=?_);have fw:=MZ m se sec;have h10:((1:Int) != 0)=true:=rfl;have h20:((2:Int) != 0)=true:=rfl;have h00:((0:Int) != 0)=false:=rfl;unfold j5;by_cases hc:lZ m se sec=0
 . obtain ⟨hm,hse,Y'⟩:=Qr hc;rw [hc] at fw;rw [if_pos hc];have hfa:=nH m key hm hk;have hcn:=lY m hm;by_cases hf:fault m key=0
   . rw [hf] at hfa;rw [if_pos hf];have hlt:=(Di hf).2;have hb:=jH m hm;have hrk:=MG m key hm hf;have e:iK m=(lR m m.ae.toNat []:Nat):=rfl;rw [e] at Y' ⊢
     have hbn:0<=(cG m key key.length+sec).tmod (lR m m.ae.toNat []:Nat)/\(cG m key key.length+sec).tmod (lR m m.ae.toNat []:Nat)<=1000000:=⟨Int.tmod_nonneg _ (by omega),by
      have:=Int.tmod_lt_of_pos (cG m key key.length+sec) (show 0<((lR m m.ae.toNat []:Nat):Int) by omega)
      omega⟩
     have hst:=MT m hm se _ hse hbn;generalize lR m m.ae.toNat []=N at*;generalize cG m key key.length=r at*;have hN0:((N:Int)==0)=false:=beq_eq_false_iff_ne.2 (by omega);clear hm hf e hc;generalize itoa (N:Int)=A at*;simp -dsimp -implicitDefEqProofs only[go_sem];repeat' (refine aa (fw) ?_;try simp -dsimp -implicitDefEqProofs only[go_sem, *])
     repeat' (refine aa (hfa) ?_;try simp -dsimp -implicitDefEqProofs only[go_sem, *])
     refine aj.draw mixed rfl ?_;simp -dsimp -implicitDefEqProofs only[go_sem];(refine an (hrk) ?_;try simp -dsimp -implicitDefEqProofs only[go_sem, *]);((with_reducible and_intros);all_goals try ((refine ⟨?_,?_⟩<;>omega)));(refine an (hcn) ?_;try simp -dsimp -implicitDefEqProofs only[go_sem, *]);((with_reducible and_intros);all_goals try omega);(refine an (hst) ?_;try simp -dsimp -implicitDefEqProofs only[go_sem, *]);all_goals try exact rfl
   rw[if_neg hf];have hz:(fault m key != 0)=true:=bne_iff_ne.2 hf;clear hm hf hc hcn;generalize fault m key=F at*;simp -dsimp -implicitDefEqProofs only[go_sem];repeat' (refine aa (fw) ?_;try simp -dsimp -implicitDefEqProofs only[go_sem, *])
   repeat' (refine aa (hfa) ?_;try simp -dsimp -implicitDefEqProofs only[go_sem, *])
 rw[if_neg hc];have hz:(lZ m se sec==0)=false:=beq_eq_false_iff_ne.2 hc;have hz2:(lZ m se sec != 0)=true:=bne_iff_ne.2 hc;clear hc;generalize lZ m se sec=C at*;simp -dsimp -implicitDefEqProofs only[go_sem];repeat' (refine aa (fw) ?_;try simp -dsimp -implicitDefEqProofs only[go_sem, *])
theorem Fn.uh {P:pR}{f:fI}{args:lA}{post:AV->Prop}(h:Fn P f args false (λx=>∃r,su x r/\post r)):Fn P f args false post:=
 ⟨h.1,λw S vs h1 hk h2 h3=>(h.2 w S vs h1 hk h2 h3).mono λ_ _ ⟨x,v,g1,⟨r,g2,g3⟩,g4,g5⟩=>⟨r,v,g1,g3,g4,by
   simp only[iN,uq2,if_false] at g5 ⊢
   exact (CU (Own.rd _ _ g5) g2).mm (λ_ h=>h) λb hb=>by cases hb⟩⟩
theorem im {m:aJ}{t ab:lL}(h:bV m t ab=0):eX m t=true/\dY m t ab=true:=by
 unfold bV at h;split at h
 . rename_i h1;split at h
   . rename_i h2;exact ⟨h1,h2⟩
   cases h
 cases h
structure M0 (m:aJ) (t ab:lL):Prop where
 oE:aU m=true
 num:(2<=m.ae/\m.ae<=6)/\2<=m.ak/\m.ak<=8
 tl:t.length<=1000
 t0:0<t.length
 le:ab.length<=t.length
 row:∀i (hi:i<t.length),t[i].length=(t.getD 0 []).length
 wd:(t.getD 0 []).length<=1000
 cut:∀x∈ab,(x.length:Int)=m.ae/\∀y∈x,0<=y/\y<m.ak
 key:∀x∈ab,fD m x=true
theorem VQ {m:aJ}{t ab:lL}(hs:eX m t=true)(hl:ab.length<=t.length)(hk:∀x∈ab,fD m x=true):M0 m t ab:=by have lz:=lS hs;obtain ⟨⟨n1,n2⟩,n3,n4⟩:=aI lz;obtain ⟨k1,k2,k3,k4,k5⟩:=iV hs;exact ⟨lz,⟨⟨by omega,by omega⟩,by omega,by omega⟩,by omega,by omega,hl,k5,by omega,λx hx=>gC (hk x hx),hk⟩
theorem iZ {m:aJ}{t ab:lL}(h:bh m t ab=true):M0 m t ab:=by obtain ⟨hs,hc⟩:=tY h;obtain ⟨c1,c2⟩:=dK hc;exact VQ hs (by omega) λx hx=>c2 x hx
theorem ui {m:aJ}{t ab:lL}(h:M0 m t ab)(k:Nat):((bQ m t ab k).length:Int)=m.ae/\∀x∈bQ m t ab k,x.length<=8:=by refine ⟨by rw[kZ];have:=h.num;omega,λx hx=>?_⟩;have:=iF m t ab _ x hx;have:=h.num;omega
theorem Dp (m:aJ):Fn pG 99 [kj m] true (· = .aX [eI (if aU m=true then iK m else 0),eI (if aU m=true then 0 else 1)]):=by
 refine Fn.au 9 [.tmp 2,.tmp 3] func99 (hv:=?_);have hi:=fC m;rcases hm:aU m with _|_
 . rw[hm] at hi;rw[if_neg (by simp),if_neg (by simp)];simp -dsimp -implicitDefEqProofs only[go_sem];refine aa hi ?_;simp -dsimp -implicitDefEqProofs only[go_sem]
 rw[hm] at hi;have hc:=lY m hm;rw[if_pos rfl,if_pos rfl];simp -dsimp -implicitDefEqProofs only[go_sem];refine aa hi ?_;simp -dsimp -implicitDefEqProofs only[go_sem];refine aa hc ?_;simp -dsimp -implicitDefEqProofs only[go_sem];all_goals (first|exact rfl|skip)
theorem Jb (m:aJ)(t ab:lL)(h:t.length<=1048576)(h2:∀x∈t,x.length<=1048576)(h3:ab.length<=1048576)(h4:∀x∈ab,x.length<=1048576):Fn pG 118 [jR m t,aQ ab] false (· = .aX [qi (if bV m t ab=0 then ay m t ab (t.getD 0 []).length else []),eI (bV m t ab)]):=by
 refine Fn.uh (Fn.mono (post:=λx=>su x (.aX [qi (if bV m t ab=0 then ay m t ab (t.getD 0 []).length else []),eI (bV m t ab)])) (Fn.bP 16 [.tmp 4,.tmp 5] func118 (hv:=?_)) λx hx=>⟨_,hx,rfl⟩);have hc:=rn m t ab h h2 h3 h4;by_cases h0:bV m t ab=0
 . obtain ⟨hs,e6⟩:=im h0;obtain ⟨c1,c2⟩:=dK e6;have hF:=VQ hs (by omega) λx hx=>c2 x hx;have hp:=gB m t ab hF.oE hF.tl hF.le hF.t0 hF.row hF.wd hF.cut;rw[if_pos h0];rw[h0] at hc ⊢;have e:((0:Int) != 0)=false:=rfl;simp -dsimp -implicitDefEqProofs only[go_sem];refine aa hc ?_;simp -dsimp -implicitDefEqProofs only[go_sem,e];refine av hp (by simp[ax,ao,aq,aF]) ?_;simp -dsimp -implicitDefEqProofs only[go_sem]
 have e:(bV m t ab != 0)=true:=bne_iff_ne.2 h0;rw[if_neg h0];simp -dsimp -implicitDefEqProofs only[go_sem];refine aa hc ?_;simp -dsimp -implicitDefEqProofs only[go_sem,e]
theorem Jc (m:aJ)(t ab:lL)(h:t.length<=1048576)(h2:∀x∈t,x.length<=1048576)(h3:ab.length<=1048576)(h4:∀x∈ab,x.length<=1048576):Fn pG 101 [jR m t,aQ ab] false (· = .aX [qi (if bV m t ab=0 then ay m t ab (t.getD 0 []).length else []),eI (bV m t ab)]):=by
 refine Fn.uh (Fn.mono (post:=λx=>su x (.aX [qi (if bV m t ab=0 then ay m t ab (t.getD 0 []).length else []),eI (bV m t ab)])) (Fn.bP 16 [.tmp 4,.tmp 5] func101 (hv:=?_)) λx hx=>⟨_,hx,rfl⟩);have hc:=tZ m t ab h h2 h3 h4;by_cases h0:bV m t ab=0
 . obtain ⟨hs,e6⟩:=im h0;obtain ⟨c1,c2⟩:=dK e6;have hF:=VQ hs (by omega) λx hx=>c2 x hx;have hp:=k6 m t ab hF.oE (by omega) hF.le hF.t0 hF.row (by have:=hF.wd;omega) λx hx=>(hF.cut x hx).1;rw[if_pos h0];rw[h0] at hc ⊢;have e:((0:Int) != 0)=false:=rfl;simp -dsimp -implicitDefEqProofs only[go_sem];refine aa hc ?_;simp -dsimp -implicitDefEqProofs only[go_sem,e];refine av hp (by simp[ax,ao,aq,aF]) ?_;simp -dsimp -implicitDefEqProofs only[go_sem]
 have e:(bV m t ab != 0)=true:=bne_iff_ne.2 h0;rw[if_neg h0];simp -dsimp -implicitDefEqProofs only[go_sem];refine aa hc ?_;simp -dsimp -implicitDefEqProofs only[go_sem,e]
def mV (m:aJ)(t ab:lL):lL:=if bV m t ab=0 then gR m t ab else []
theorem uj (m:aJ)(t ab:lL)(h:t.length<=1048576)(h2:∀x∈t,x.length<=1048576)(h3:ab.length<=1048576)(h4:∀x∈ab,x.length<=1048576):Fn pG 178 [jR m t,aQ ab] false (· = .aX [aQ (mV m t ab),eI (bV m t ab)]):=by
 refine Fn.uh (Fn.mono (post:=λx=>su x (.aX [aQ (mV m t ab),eI (bV m t ab)])) (Fn.bP 16 [.tmp 4,.tmp 5] func178 (hv:=?_)) λx hx=>⟨_,hx,rfl⟩);have hc:=rn m t ab h h2 h3 h4;unfold mV;by_cases h0:bV m t ab=0
 . obtain ⟨hs,e6⟩:=im h0;obtain ⟨c1,c2⟩:=dK e6;have hF:=VQ hs (by omega) λx hx=>c2 x hx;have hp:=nJ m t ab hF.oE hF.tl hF.le hF.t0 hF.row hF.wd hF.cut;rw[if_pos h0];rw[h0] at hc ⊢;have e:((0:Int) != 0)=false:=rfl;simp -dsimp -implicitDefEqProofs only[go_sem];refine aa hc ?_;simp -dsimp -implicitDefEqProofs only[go_sem,e];refine av hp (by simp[ax,ao,aq,aF]) ?_;simp -dsimp -implicitDefEqProofs only[go_sem]
 have e:(bV m t ab != 0)=true:=bne_iff_ne.2 h0;rw[if_neg h0];simp -dsimp -implicitDefEqProofs only[go_sem];refine aa hc ?_;simp -dsimp -implicitDefEqProofs only[go_sem,e]
theorem uk (m:aJ)(t ab:lL)(h:t.length<=1048576)(h2:∀x∈t,x.length<=1048576)(h3:ab.length<=1048576)(h4:∀x∈ab,x.length<=1048576):Fn pG 97 [jR m t,aQ ab] false (· = .aX [aQ (mV m t ab),eI (bV m t ab)]):=by
 refine Fn.uh (Fn.mono (post:=λx=>su x (.aX [aQ (mV m t ab),eI (bV m t ab)])) (Fn.bP 16 [.tmp 4,.tmp 5] func97 (hv:=?_)) λx hx=>⟨_,hx,rfl⟩);have hc:=tZ m t ab h h2 h3 h4;unfold mV;by_cases h0:bV m t ab=0
 . obtain ⟨hs,e6⟩:=im h0;obtain ⟨c1,c2⟩:=dK e6;have hF:=VQ hs (by omega) λx hx=>c2 x hx;have hp:=rk m t ab hF.oE (by have:=hF.tl;omega) hF.le hF.t0 hF.row hF.wd λx hx=>(hF.cut x hx).1;rw[if_pos h0];rw[h0] at hc ⊢;have e:((0:Int) != 0)=false:=rfl;simp -dsimp -implicitDefEqProofs only[go_sem];refine aa hc ?_;simp -dsimp -implicitDefEqProofs only[go_sem,e];refine av hp (by simp[ax,ao,aq,aF]) ?_;simp -dsimp -implicitDefEqProofs only[go_sem]
 have e:(bV m t ab != 0)=true:=bne_iff_ne.2 h0;rw[if_neg h0];simp -dsimp -implicitDefEqProofs only[go_sem];refine aa hc ?_;simp -dsimp -implicitDefEqProofs only[go_sem,e]
def fU (l:lL):Int:=(l.map λs=>(s.length:Int)-1).sum
theorem Ch (l:lL)(i:Nat)(hi:i<l.length):fU (l.take (i+1))=fU (l.take i)+((l[i].length:Int)-1):=by rw[eZ hi,fU,bp,List.sum_append];simp[fU]
theorem Dq (l:lL)(h:∀x∈l,x.length<=8): -(l.length:Int)<=fU l/\fU l<=7*l.length:=by
 induction l with
 |nil=>simp[fU]
 |cons x r ih=>
  have h1:=h x (List.mem_cons_self ..);have h2:=ih λy hy=>h y (List.mem_cons_of_mem _ hy);have e:fU (x::r)=((x.length:Int)-1)+fU r:=by simp[fU]
  rw[e,dL];omega
theorem Jd (l:lL)(h:l.length<=1000)(h2:∀x∈l,x.length<=8):Fn pG 266 [sT l] true (· =eI (fU l)):=by
 refine Fn.au 20 [.tmp 2] func266 (hv:= ?_);have hb:∀i, -(1000:Int)<=fU (l.take i)/\fU (l.take i)<=7000:=λi=>by
  have:=Dq (l.take i) λx hx=>h2 x (dh hx);have:(l.take i).length<=1000:=by simp;omega
  omega
 simp -dsimp -implicitDefEqProofs only[go_sem];refine aj.up [7,8] [15] [] l.length (λ_=>True) (λi=>[(3,eI (fU (l.take i))),(9,eI i)]) (λ_=>[]) trivial ?_ rfl (λi hi _=>?_) (λ_=>?_)
 . simp -dsimp -implicitDefEqProofs only[go_sem];all_goals first|rfl|skip
 . have gi:=get_some hi;have hx:=h2 _ (uq9 hi);have b1:=hb i;rw[Ch l i hi];generalize fU (l.take i)=W at*;generalize l[i]=x at*;simp -dsimp -implicitDefEqProofs only[go_sem,aE hi,gi];((with_reducible and_intros);all_goals try first|omega|(refine ⟨?_,?_⟩<;>omega)|exact rfl)
 simp -dsimp -implicitDefEqProofs only[go_sem,aA,e8]
theorem Gp (l:lL)(h:l.length<=1000)(h2:∀x∈l,x.length<=8):Fn pG 194 [sT l] true (· =eI (fU l)):=by
 refine Fn.au 22 [.tmp 2] func194 (hv:= ?_);have hb:∀i, -(1000:Int)<=fU (l.take i)/\fU (l.take i)<=7000:=λi=>by
  have:=Dq (l.take i) λx hx=>h2 x (dh hx);have:(l.take i).length<=1000:=by simp;omega
  omega
 simp -dsimp -implicitDefEqProofs only[go_sem];refine aj.up [1] [8,18] [] l.length (λ_=>True) (λi=>[(3,eI (fU (l.take i))),(4,eI i)]) (λ_=>[]) trivial ?_ rfl (λi hi _=>?_) (λ_=>?_)
 . simp -dsimp -implicitDefEqProofs only[go_sem];all_goals first|rfl|skip
 . have gi:=get_some hi;have hx:=h2 _ (uq9 hi);have b1:=hb i;rw[Ch l i hi];generalize fU (l.take i)=W at*;generalize l[i]=x at*;simp -dsimp -implicitDefEqProofs only[go_sem,aE hi,gi];((with_reducible and_intros);all_goals try first|omega|(refine ⟨?_,?_⟩<;>omega)|exact rfl);all_goals first|(congr 1;omega)|(first|omega|(refine ⟨?_,?_⟩<;>omega)|exact rfl|(simp;done)|skip)
 simp -dsimp -implicitDefEqProofs only[go_sem,aA,e8]
def j6 (ls:List lL):Int:=(ls.map fU).sum
theorem Ci (ls:List lL)(i:Nat)(hi:i<ls.length):j6 (ls.take (i+1))=j6 (ls.take i)+fU ls[i]:=by rw[eZ hi,j6,bp,List.sum_append];simp[j6]
theorem Km (ls:List lL)(h:∀l∈ls, -1000<=fU l/\fU l<=7000): -1000*(ls.length:Int)<=j6 ls/\j6 ls<=7000*ls.length:=by
 induction ls with
 |nil=>simp[j6]
 |cons x r ih=>
  have h1:=h x (List.mem_cons_self ..);have h2:=ih λy hy=>h y (List.mem_cons_of_mem _ hy);have e:j6 (x::r)=fU x+j6 r:=by simp[j6]
  rw[e,dL];omega
theorem l4 {m:aJ}{t ab:lL}{n:Nat}{l:lL}(h:l∈ay m t ab n):∃k,k<n/\l=bQ m t ab k:=by simp only[ay,List.mem_map,List.mem_range] at h;obtain ⟨k,hk,rfl⟩:=h;exact ⟨k,hk,rfl⟩
theorem uo {m:aJ}{t ab:lL}(hF:M0 m t ab)(n:Nat):∀l∈ay m t ab n,l.length<=1000/\(∀x∈l,x.length<=8)/\ -1000<=fU l/\fU l<=7000:=by intro l hl;obtain ⟨k,_,rfl⟩:=l4 hl;obtain ⟨h1,h2⟩:=ui hF k;have:=hF.num;have:=Dq _ h2;exact ⟨by omega,h2,by omega,by omega⟩
def oz (m:aJ)(t ab:lL):Int:=j6 (ay m t ab (t.getD 0 []).length)
theorem y5 (m:aJ)(t ab:lL)(hF:M0 m t ab):Fn pG 234 [jR m t,aQ ab] true (· =eI (oz m t ab)):=by
 refine Fn.au 22 [.tmp 4] func234 (hv:=?_);have hp:=gB m t ab hF.oE hF.tl hF.le hF.t0 hF.row hF.wd hF.cut;have hw:=uo hF (t.getD 0 []).length;have hll:(ay m t ab (t.getD 0 []).length).length<=1000:=by rw[ay,dE,a_];exact hF.wd
 unfold oz;generalize ay m t ab (t.getD 0 []).length=ls at*;have hb:∀i, -(1000000:Int)<=j6 (ls.take i)/\j6 (ls.take i)<=7000000:=λi=>by
  have:=Km (ls.take i) λx hx=>(hw x (dh hx)).2.2;have:(ls.take i).length<=1000:=by simp;omega
  omega
 simp -dsimp -implicitDefEqProofs only[go_sem];refine av hp (by simp[ax,ao,aq,aF]) ?_;simp -dsimp -implicitDefEqProofs only[go_sem];refine aj.up [10,11] [7,18] [] ls.length (λ_=>True) (λi=>[(5,eI (j6 (ls.take i))),(12,eI i)]) (λ_=>[]) trivial ?_ rfl (λi hi _=>?_) (λ_=>?_)
 . simp -dsimp -implicitDefEqProofs only[go_sem];all_goals first|rfl|skip
 . have gi:=get_some hi;have hx:=hw _ (uq9 hi);have b1:=hb i;have hcw:=Jd ls[i] hx.1 hx.2.1;rw[Ci ls i hi];generalize j6 (ls.take i)=W at*;generalize ls[i]=x at*;simp -dsimp -implicitDefEqProofs only[go_sem,aE hi,gi];((with_reducible and_intros);all_goals try omega);refine aa hcw ?_;simp -dsimp -implicitDefEqProofs only[go_sem];((with_reducible and_intros);all_goals try first|(refine ⟨?_,?_⟩<;>omega)|exact rfl)
 simp -dsimp -implicitDefEqProofs only[go_sem,aA,e8]
theorem v8 (m:aJ)(t ab:lL)(h:t.length<=1048576)(h2:∀x∈t,x.length<=1048576)(h3:ab.length<=1048576)(h4:∀x∈ab,x.length<=1048576):Fn pG 181 [jR m t,aQ ab] true (· = .aX [eI (if bh m t ab=true then oz m t ab else 0),eI (if bh m t ab=true then 0 else 1)]):=by
 refine Fn.au 16 [.tmp 4,.tmp 5] func181 (hv:=?_);have hc:=kp m t ab h h2 h3 h4;rcases hd:bh m t ab with _|_
 . rw[hd,if_neg (by simp)] at hc;rw[if_neg (by simp),if_neg (by simp)];have e:((1:Int) != 0)=true:=rfl;simp -dsimp -implicitDefEqProofs only[go_sem];refine aa hc ?_;simp -dsimp -implicitDefEqProofs only[go_sem,e]
 rw[hd,if_pos rfl] at hc;rw[if_pos rfl,if_pos rfl];have hs:=y5 m t ab (iZ hd);have e:((0:Int) != 0)=false:=rfl;simp -dsimp -implicitDefEqProofs only[go_sem];refine aa hc ?_;simp -dsimp -implicitDefEqProofs only[go_sem,e];refine aa hs ?_;simp -dsimp -implicitDefEqProofs only[go_sem]
theorem Gq (m:aJ)(t ab:lL)(hF:M0 m t ab):Fn pG 144 [jR m t,aQ ab] true (· =eI (oz m t ab)):=by
 refine Fn.au 25 [.tmp 4] func144 (hv:=?_);have hp:=k6 m t ab hF.oE (by have:=hF.tl;have:=hF.le;omega) hF.le hF.t0 hF.row (by have:=hF.wd;omega) λx hx=>(hF.cut x hx).1;have hw:=uo hF (t.getD 0 []).length;have hll:(ay m t ab (t.getD 0 []).length).length<=1000:=by rw[ay,dE,a_];exact hF.wd
 unfold oz;generalize ay m t ab (t.getD 0 []).length=ls at*;have hb:∀i, -(1000000:Int)<=j6 (ls.take i)/\j6 (ls.take i)<=7000000:=λi=>by
  have:=Km (ls.take i) λx hx=>(hw x (dh hx)).2.2;have:(ls.take i).length<=1000:=by simp;omega
  omega
 simp -dsimp -implicitDefEqProofs only[go_sem];refine av hp (by simp[ax,ao,aq,aF]) ?_;simp -dsimp -implicitDefEqProofs only[go_sem];refine aj.up [5] [13,22] [] ls.length (λ_=>True) (λi=>[(6,eI (j6 (ls.take i))),(7,eI i)]) (λ_=>[]) trivial ?_ rfl (λi hi _=>?_) (λ_=>?_)
 . simp -dsimp -implicitDefEqProofs only[go_sem];all_goals first|rfl|skip
 . have gi:=get_some hi;have hx:=hw _ (uq9 hi);have b1:=hb i;have hcw:=Gp ls[i] hx.1 hx.2.1;rw[Ci ls i hi];generalize j6 (ls.take i)=W at*;generalize ls[i]=x at*;simp -dsimp -implicitDefEqProofs only[go_sem,aE hi,gi];((with_reducible and_intros);all_goals try omega);refine aa hcw ?_;simp -dsimp -implicitDefEqProofs only[go_sem];((with_reducible and_intros);all_goals try first|(refine ⟨?_,?_⟩<;>omega)|exact rfl)
 simp -dsimp -implicitDefEqProofs only[go_sem,aA,e8]
theorem v_ (m:aJ)(t ab:lL)(h:t.length<=1048576)(h2:∀x∈t,x.length<=1048576)(h3:ab.length<=1048576)(h4:∀x∈ab,x.length<=1048576):Fn pG 100 [jR m t,aQ ab] true (· = .aX [eI (if bh m t ab=true then oz m t ab else 0),eI (if bh m t ab=true then 0 else 1)]):=by
 refine Fn.au 16 [.tmp 4,.tmp 5] func100 (hv:=?_);have hc:=p_ m t ab h h2 h3 h4;rcases hd:bh m t ab with _|_
 . rw[hd,if_neg (by simp)] at hc;rw[if_neg (by simp),if_neg (by simp)];have e:((1:Int) != 0)=true:=rfl;simp -dsimp -implicitDefEqProofs only[go_sem];refine aa hc ?_;simp -dsimp -implicitDefEqProofs only[go_sem,e]
 rw[hd,if_pos rfl] at hc;rw[if_pos rfl,if_pos rfl];have hs:=Gq m t ab (iZ hd);have e:((0:Int) != 0)=false:=rfl;simp -dsimp -implicitDefEqProofs only[go_sem];refine aa hc ?_;simp -dsimp -implicitDefEqProofs only[go_sem,e];refine aa hs ?_;simp -dsimp -implicitDefEqProofs only[go_sem]
def bD (ls:List lL)(c:lI):Nat->lI
 |0=>[]
 |n+1=>if dX (ls.getD n []) c=true then bD ls c n++[(n:Int)] else bD ls c n
theorem gE (ls:List lL)(c:lI):∀n,(bD ls c n).length<=n
 |0=>j_ _
 |n+1=>by
  have:=gE ls c n;rw[bD];split
  . simp;omega
  omega
theorem uq (ls:List lL)(c:lI):∀n,∀x∈bD ls c n,0<=x/\x<n
 |0,x,h=>by cases h
 |n+1,x,h=>by
  rw[bD] at h;split at h
  . rcases List.mem_append.1 h with h|h
    . have:=uq ls c n x h;omega
    simp at h;omega
  have:=uq ls c n x h;omega
theorem mf (ls:List lL)(c:lI)(h:ls.length<=1000)(hl:∀l∈ls,c.length<=l.length/\l.length<=1048576/\∀x∈l,x.length<=1048576):Fn pG 169 [qi ls,aM c] true (· =aM (bD ls c ls.length)):=by
 refine Fn.au 25 [.tmp 4] func169 (hv:=?_);simp -dsimp -implicitDefEqProofs only[go_sem];refine aj.up [1,9,10] [7,18,21,22] [8] ls.length (λ_=>True) (λi=>[(5,.ref 8 0 0 (bD ls c i).length),(11,eI i)]) (λi=>[(8,.row 0 ⟨1,false⟩ true ((bD ls c i).map eI))]) trivial ?_ rfl (λi hi _=>?_) (λ_=>?_)
 . simp -dsimp -implicitDefEqProofs only[go_sem,bD,cM,b7]
 . have gi:=get_some hi;have hx:=hl _ (uq9 hi);have ho:=Dg ls[i] c hx.1 hx.2.1 hx.2.2;have eg:ls.getD i []=ls[i]:=(by rw [uq7,gi];rfl);have hdl:=gE ls c i;rw [bD,eg];generalize bD ls c i=D at*;have tD:di D.length (D.map eI)=D.map eI:=cm (by simp);generalize ls[i]=l at*;rcases hb:dX l c with _|_
   . rw[hb] at ho;rw[if_neg (by simp)];simp -dsimp -implicitDefEqProofs only[go_sem,aE hi,gi];((with_reducible and_intros);all_goals try omega);refine aa ho ?_;simp -dsimp -implicitDefEqProofs only[go_sem];((with_reducible and_intros);all_goals try first|(refine ⟨?_,?_⟩<;>omega)|exact rfl)
   rw[hb] at ho;rw[if_pos rfl,bp,eR,bk,List.length_singleton];simp -dsimp -implicitDefEqProofs only[go_sem,aE hi,gi];((with_reducible and_intros);all_goals try omega);refine aa ho ?_;simp -dsimp -implicitDefEqProofs only[go_sem,tD];((with_reducible and_intros);all_goals try first|omega|(refine ⟨?_,?_⟩<;>omega)|exact rfl)
 generalize hD:bD ls c ls.length=D at*;simp -dsimp -implicitDefEqProofs only[go_sem,aA];all_goals first|(simp;done)|(first|omega|(refine ⟨?_,?_⟩<;>omega)|exact rfl|(simp;done)|skip)
theorem rE {m:aJ}{t ab:lL}(hF:M0 m t ab){c:lI}(hc:(c.length:Int)=m.ae)(n:Nat):∀l∈ay m t ab n,c.length<=l.length/\l.length<=1048576/\∀x∈l,x.length<=1048576:=by intro l hl;obtain ⟨k,_,rfl⟩:=l4 hl;obtain ⟨h1,h2⟩:=ui hF k;have:=hF.num;exact ⟨by omega,by omega,λx hx=>by have:=h2 x hx;omega⟩
def Gr (m:aJ)(t ab:lL)(c:lI):lI:=bD (ay m t ab (t.getD 0 []).length) c (t.getD 0 []).length
def Cj (m:aJ)(t ab:lL)(c:lI):lI × Int:=if bh m t ab=true then if fault m c=0 then (Gr m t ab c,0) else ([],2) else ([],1)
theorem Qs {m:aJ}{t ab:lL}{c:lI}:(Cj m t ab c).1.length<=12/\∀x∈(Cj m t ab c).1,0<=x/\x<=1000000000000:=by
 unfold Cj;split
 . rename_i h;obtain ⟨k1,k2,k3,k4,k5⟩:=iV (tY h).1;split
   . refine ⟨Nat.le_trans (gE _ _ _) k4,λx hx=>?_⟩;have:=uq _ _ _ x hx;omega
   simp
 simp
theorem y6 (m:aJ)(t ab:lL)(h:t.length<=1048576)(h2:∀x∈t,x.length<=1048576)(h3:ab.length<=1048576)(h4:∀x∈ab,x.length<=1048576)(c:lI)(h5:c.length<=1048576):Fn pG 121 [jR m t,aQ ab,aM c] true (· = .aX [aM (Cj m t ab c).1,eI (Cj m t ab c).2]):=by
 refine Fn.au 25 [.tmp 6,.tmp 7] func121 (hv:=?_);have hc:=kp m t ab h h2 h3 h4;unfold Cj;rcases hd:bh m t ab with _|_
 . rw[hd,if_neg (by simp)] at hc;rw[if_neg (by simp)];have e:((1:Int) != 0)=true:=rfl;simp -dsimp -implicitDefEqProofs only[go_sem];refine aa hc ?_;simp -dsimp -implicitDefEqProofs only[go_sem,e]
 rw[hd,if_pos rfl] at hc;have hF:=iZ hd;have hk:=Df m c hF.oE h5;have e:((0:Int) != 0)=false:=rfl;rw[if_pos rfl];by_cases hf:fault m c=0
 . have e2:fD m c=true:=beq_iff_eq.2 hf;rw[e2] at hk;rw[if_pos hf];have hcl:=(gC e2).1;have hp:=gB m t ab hF.oE hF.tl hF.le hF.t0 hF.row hF.wd hF.cut;have hll:(ay m t ab (t.getD 0 []).length).length=(t.getD 0 []).length:=(by rw[ay,dE,a_]);have ho:=mf (ay m t ab (t.getD 0 []).length) c (by rw[hll];exact hF.wd) (rE hF hcl _);rw[hll] at ho;unfold Gr;simp -dsimp -implicitDefEqProofs only[go_sem];refine aa hc ?_;simp -dsimp -implicitDefEqProofs only[go_sem,e];refine aa hk ?_;simp -dsimp -implicitDefEqProofs only[go_sem];refine av hp (by simp[ax,ao,aq,aF]) ?_;simp -dsimp -implicitDefEqProofs only[go_sem];refine aa ho ?_;simp -dsimp -implicitDefEqProofs only[go_sem];all_goals first|(simp;done)|(first|omega|(refine ⟨?_,?_⟩<;>omega)|exact rfl|(simp;done)|skip)
 have e2:fD m c=false:=beq_eq_false_iff_ne.2 hf;rw[e2] at hk;rw[if_neg hf];simp -dsimp -implicitDefEqProofs only[go_sem];refine aa hc ?_;simp -dsimp -implicitDefEqProofs only[go_sem,e];refine aa hk ?_;simp -dsimp -implicitDefEqProofs only[go_sem]
theorem y7 (m:aJ)(t ab:lL)(hF:M0 m t ab)(c:lI)(hc:(c.length:Int)=m.ae):Fn pG 150 [jR m t,aQ ab,aM c] true (· =aM (Gr m t ab c)):=by
 refine Fn.au 31 [.tmp 6] func150 (hv:=?_);have hp:=k6 m t ab hF.oE (by have:=hF.tl;have:=hF.le;omega) hF.le hF.t0 hF.row (by have:=hF.wd;omega) λx hx=>(hF.cut x hx).1;have hl:=rE hF hc (t.getD 0 []).length;have hll:(ay m t ab (t.getD 0 []).length).length=(t.getD 0 []).length:=by rw[ay,dE,a_]
 have hwd:=hF.wd;unfold Gr;generalize ay m t ab (t.getD 0 []).length=ls at*;rw[←hll] at hwd ⊢;simp -dsimp -implicitDefEqProofs only[go_sem];refine av hp (by simp[ax,ao,aq,aF]) ?_;simp -dsimp -implicitDefEqProofs only[go_sem];refine aj.up [2,7] [16,25,28,29] [13] ls.length (λ_=>True) (λi=>[(8,.ref 13 0 0 (bD ls c i).length),(9,eI i)]) (λi=>[(13,.row 0 ⟨1,false⟩ true ((bD ls c i).map eI))]) trivial ?_ rfl (λi hi _=>?_) (λ_=>?_)
 . simp -dsimp -implicitDefEqProofs only[go_sem,bD,cM,b7]
 . have gi:=get_some hi;have hx:=hl _ (uq9 hi);have ho:=rh ls[i] c hx.1 hx.2.1 hx.2.2;have eg:ls.getD i []=ls[i]:=(by rw [uq7,gi];rfl);have hdl:=gE ls c i;rw [bD,eg];generalize bD ls c i=D at*;have tD:di D.length (D.map eI)=D.map eI:=cm (by simp);generalize ls[i]=l at*;rcases hb:dX l c with _|_
   . rw[hb] at ho;rw[if_neg (by simp)];simp -dsimp -implicitDefEqProofs only[go_sem,aE hi,gi];((with_reducible and_intros);all_goals try omega);refine aa ho ?_;simp -dsimp -implicitDefEqProofs only[go_sem];((with_reducible and_intros);all_goals try first|(refine ⟨?_,?_⟩<;>omega)|exact rfl)
   rw[hb] at ho;rw[if_pos rfl,bp,eR,bk,List.length_singleton];simp -dsimp -implicitDefEqProofs only[go_sem,aE hi,gi];((with_reducible and_intros);all_goals try omega);refine aa ho ?_;simp -dsimp -implicitDefEqProofs only[go_sem,tD];((with_reducible and_intros);all_goals try first|omega|(refine ⟨?_,?_⟩<;>omega)|exact rfl)
 generalize hD:bD ls c ls.length=D at*;simp -dsimp -implicitDefEqProofs only[go_sem,aA];all_goals first|(simp;done)|(first|omega|(refine ⟨?_,?_⟩<;>omega)|exact rfl|(simp;done)|skip)
theorem Qt (m:aJ)(t ab:lL)(h:t.length<=1048576)(h2:∀x∈t,x.length<=1048576)(h3:ab.length<=1048576)(h4:∀x∈ab,x.length<=1048576)(c:lI)(h5:c.length<=1048576):Fn pG 149 [jR m t,aQ ab,aM c] true (· =eI (Cj m t ab c).2):=by
 refine Fn.au 21 [.tmp 6] func149 (hv:=?_);have hc:=p_ m t ab h h2 h3 h4;unfold Cj;rcases hd:bh m t ab with _|_
 . rw[hd,if_neg (by simp)] at hc;rw[if_neg (by simp)];have e:((1:Int)==0)=false:=rfl;simp -dsimp -implicitDefEqProofs only[go_sem];refine aa hc ?_;simp -dsimp -implicitDefEqProofs only[go_sem,e]
 rw[hd,if_pos rfl] at hc;have hF:=iZ hd;have hk:=nH m c hF.oE h5;have e:((0:Int)==0)=true:=rfl;rw[if_pos rfl];by_cases hf:fault m c=0
 . have e3:((0:Int) != 0)=false:=rfl;rw[hf] at hk;rw[if_pos hf];simp -dsimp -implicitDefEqProofs only[go_sem];refine aa hc ?_;simp -dsimp -implicitDefEqProofs only[go_sem,e];refine aa hk ?_;simp -dsimp -implicitDefEqProofs only[go_sem,e3]
 have e3:(fault m c != 0)=true:=bne_iff_ne.2 hf;rw[if_neg hf];simp -dsimp -implicitDefEqProofs only[go_sem];refine aa hc ?_;simp -dsimp -implicitDefEqProofs only[go_sem,e];refine aa hk ?_;simp -dsimp -implicitDefEqProofs only[go_sem,e3]
theorem y8 (m:aJ)(t ab:lL)(h:t.length<=1048576)(h2:∀x∈t,x.length<=1048576)(h3:ab.length<=1048576)(h4:∀x∈ab,x.length<=1048576)(c:lI)(h5:c.length<=1048576):Fn pG 104 [jR m t,aQ ab,aM c] true (· = .aX [aM (Cj m t ab c).1,eI (Cj m t ab c).2]):=by
 refine Fn.au 20 [.tmp 6,.tmp 7] func104 (hv:=?_);have hc:=Qt m t ab h h2 h3 h4 c h5;unfold Cj at hc ⊢;rcases hd:bh m t ab with _|_
 . rw[hd,if_neg (by simp)] at hc;rw[if_neg (by simp)];have e:((1:Int) != 0)=true:=rfl;simp -dsimp -implicitDefEqProofs only[go_sem];refine aa hc ?_;simp -dsimp -implicitDefEqProofs only[go_sem,e]
 rw[hd,if_pos rfl] at hc;have hF:=iZ hd;rw[if_pos rfl];by_cases hf:fault m c=0
 . have e:((0:Int) != 0)=false:=rfl;rw[if_pos hf] at hc ⊢;have hD:=y7 m t ab hF c (gC (beq_iff_eq.2 hf)).1;simp -dsimp -implicitDefEqProofs only[go_sem];refine aa hc ?_;simp -dsimp -implicitDefEqProofs only[go_sem,e];refine aa hD ?_;simp -dsimp -implicitDefEqProofs only[go_sem];all_goals first|(simp;done)|(first|omega|(refine ⟨?_,?_⟩<;>omega)|exact rfl|(simp;done)|skip)
 have e:((2:Int) != 0)=true:=rfl;rw[if_neg hf] at hc ⊢;simp -dsimp -implicitDefEqProofs only[go_sem];refine aa hc ?_;simp -dsimp -implicitDefEqProofs only[go_sem,e]
def DY (ks:lL)(k:lI):Bool:=ks.any λx=>decide (x=k)
theorem Qu {ks:lL}{k:lI}(h:∀i (hi:i<ks.length),decide (ks[i]=k)=false):DY ks k=false:=by unfold DY;rw[List.any_eq_false];intro x hx;obtain ⟨i,hi,rfl⟩:=List.getElem_of_mem hx;rw[h i hi];simp
theorem Kn {ks:lL}{k:lI}{i:Nat}(hi:i<ks.length)(h:decide (ks[i]=k)=true):DY ks k=true:=by unfold DY;rw[List.any_eq_true];exact ⟨_,uq9 hi,h⟩
theorem Qv (ks:lL)(k:lI)(h:ks.length<=1048576)(h2:∀x∈ks,x.length<=1048576):Fn pG 193 [aQ ks,aM k] true (· =eB (DY ks k)):=by
 refine Fn.au 18 [.tmp 4] func193 (hv:=?_);simp -dsimp -implicitDefEqProofs only[go_sem];refine aj.up [0,1] [8,17] [] ks.length (λi=>∀j (hj:j<ks.length),j<i->decide (ks[j]=k)=false) (λi=>[(5,eI i)]) (λ_=>[]) (λj _ h=>absurd h (DO _)) ?_ rfl (λi hi hI=>?_) (λhI=>?_)
 . simp -dsimp -implicitDefEqProofs only[go_sem]
 . have gi:=get_some hi;have hc:=Mu ks[i] k (by have:=h2 _ (uq9 hi);omega);rcases hv:decide (ks[i]=k) with _|_
   . rw [hv] at hc;have hI':∀j (hj:j<ks.length),j<i+1->decide (ks[j]=k)=false:=λj hj h=>by
      by_cases hji:j=i
      . subst hji;exact hv
      exact hI j hj (by omega)
     clear hI hv;generalize ks[i]=x at*;simp -dsimp -implicitDefEqProofs only[go_sem,gi,aE hi];((with_reducible and_intros);all_goals try omega);refine aa hc ?_;simp -dsimp -implicitDefEqProofs only[go_sem];((with_reducible and_intros);all_goals try first|omega|(refine ⟨?_,?_⟩<;>omega)|exact rfl)
   rw[hv] at hc;rw[Kn hi hv];clear hI hv;generalize ks[i]=x at*;simp -dsimp -implicitDefEqProofs only[go_sem,gi,aE hi];((with_reducible and_intros);all_goals try omega);refine aa hc ?_;simp -dsimp -implicitDefEqProofs only[go_sem]
 rw[Qu λj hj=>hI j hj hj];simp -dsimp -implicitDefEqProofs only[go_sem,aA]
theorem y9 (ks:lL)(k:lI)(h:ks.length<=1048576)(h2:∀x∈ks,x.length<=1048576):Fn pG 224 [aQ ks,aM k] true (· =eB (DY ks k)):=by
 refine Fn.au 8 [.tmp 4] func224 (hv:=?_);have zx:(∀i (hi:i<ks.length),decide (ks[i]=k)=false)->DY ks k=false:=λh=>Qu h;have hno:∀i (hi:i<ks.length),decide (ks[i]=k)=true->DY ks k=true:=λi hi h=>Kn hi h;generalize DY ks k=ok at zx hno;simp -dsimp -implicitDefEqProofs only[go_sem];refine bJ 400000 9 [.tmp 4] func74 rfl rfl rfl rfl rfl (by exact oT rfl) ?_;simp -dsimp -implicitDefEqProofs only[go_sem];refine bJ 410000 19 [.tmp 4] func89 rfl rfl rfl rfl rfl (by exact oT rfl) ?_;simp -dsimp -implicitDefEqProofs only[go_sem];refine aj.up [0,1,7] [16] [] ks.length (λi=>∀j (hj:j<ks.length),j<i->decide (ks[j]=k)=false) (λi=>[(8,eI i)]) (λ_=>[]) (λj _ h=>absurd h (DO _)) ?_ rfl (λi hi hI=>?_) (λhI=>?_)
 . simp -dsimp -implicitDefEqProofs only[go_sem]
 . have gi:=get_some hi;have li:=aE hi;have hc:=F7 ks[i] k (by have:=h2 _ (uq9 hi);omega);rcases hv:decide (ks[i]=k) with _|_
   . rw [hv] at hc;have hI':∀j (hj:j<ks.length),j<i+1->decide (ks[j]=k)=false:=λj hj h=>by
      by_cases hji:j=i
      . subst hji;exact hv
      exact hI j hj (by omega)
     clear hno zx hI hv;generalize ks[i]=x at*;simp -dsimp -implicitDefEqProofs only[go_sem,gi,li];refine ⟨⟨by omega,by omega⟩,?_⟩;refine bJ 420000 7 [.tmp 3] func263 rfl rfl rfl rfl rfl (by exact oT rfl) ?_;simp -dsimp -implicitDefEqProofs only[go_sem]
     repeat' first
      |(with_reducible refine ai ?_ ?_)
      |(refine aa (hc) ?_;try simp -dsimp -implicitDefEqProofs only[go_sem, *])
     (all_goals try first|omega|(refine ⟨?_,?_⟩<;>omega)|exact rfl|(simp;done))
   rw[hv] at hc;have hn:=hno i hi hv;clear hno zx hI hv;subst hn;generalize ks[i]=x at*;simp -dsimp -implicitDefEqProofs only[go_sem,gi,li];refine ⟨⟨by omega,by omega⟩,?_⟩;refine bJ 420000 7 [.tmp 3] func263 rfl rfl rfl rfl rfl (by exact oT rfl) ?_;simp -dsimp -implicitDefEqProofs only[go_sem];repeat' (refine aa (hc) ?_;try simp -dsimp -implicitDefEqProofs only[go_sem, *])
   (all_goals try first|exact rfl|(simp;done))
 have hn:=zx λj hj=>hI j hj hj;clear hno zx hI;subst hn;simp -dsimp -implicitDefEqProofs only[go_sem,aA];(all_goals try first|exact rfl|(simp;done))
def Gs (ls:List lL)(k:lI)(n:Nat):Bool:=(ls.take n).any λl=>dX l k
theorem Ck {ls:List lL}{k:lI}{n:Nat}(h:n<ls.length):Gs ls k (n+1)=(Gs ls k n||dX ls[n] k):=by unfold Gs;rw[eZ h,List.any_append];simp
def Ko (ls:List lL)(ab:lL)(k:lI):Bool:=Gs ls k ls.length&& !DY ab k
def Tj (m:aJ)(t ab:lL)(i:Nat):lL:=((bx m).take i).filter (Ko (ay m t ab (t.getD 0 []).length) ab)
def cj (m:aJ)(t ab:lL):lL:=(bx m).filter (Ko (ay m t ab (t.getD 0 []).length) ab)
theorem Qw {m:aJ}{t ab:lL}{i:Nat}{k:lI}(h:(bx m)[i]? =some k):Tj m t ab (i+1)=Tj m t ab i++if Ko (ay m t ab (t.getD 0 []).length) ab k=true then [k] else []:=by unfold Tj;rw[List.take_add_one,h,List.filter_append];congr 1;simp only[DQ,List.filter_cons,List.filter_nil]
theorem Kp (m:aJ)(t ab:lL):Tj m t ab (bx m).length=cj m t ab:=by unfold Tj cj;rw[e8]
theorem M1 {m:aJ}(hm:aU m=true):(bx m).length<=262144:=by have ⟨⟨n1,n2⟩,n3,n4⟩:=aI hm;have:(bx m).length<=8^6:=Nat.le_trans (ko m hm _ _) (Nat.pow_le_pow_right (by decide) (by omega));omega
theorem Kq {m:aJ}(hm:aU m=true)(t ab:lL)(i:Nat):(Tj m t ab i).length<=262144:=by unfold Tj;refine Nat.le_trans (List.length_filter_le ..) ?_;have:=M1 hm;rw[List.length_take];omega
theorem rF {m:aJ}(hm:aU m=true)(t ab:lL):(cj m t ab).length<=262144:=by rw[←Kp];exact Kq hm t ab _
theorem pC (m:aJ)(t ab:lL)(hF:M0 m t ab):Fn pG 142 [jR m t,aQ ab,eB true] false (· =aQ (cj m t ab)):=by
 refine Fn.uh (Fn.mono (post:=λx=>su x (aQ (cj m t ab))) (Fn.bP 60 [.tmp 6] func142 (hv:=?_)) λx hx=>⟨_,hx,rfl⟩);have hp:=k6 m t ab hF.oE (by have:=hF.tl;have:=hF.le;omega) hF.le hF.t0 hF.row (by have:=hF.wd;omega) λx hx=>(hF.cut x hx).1;have lz:=hF.oE;have tg:=hF.num;obtain ⟨k0,hk1,hf⟩:=yZ lz;have hK:=λk (hk:k∈bx m)=>kq (m:=m) (by omega) hk;have hH:=λk=>Qv ab k (by have:=hF.tl;have:=hF.le;omega) (λx hx=>by have:=(hF.cut x hx).1;omega);have hO:=λ(k:lI) (hk:(k.length:Int)=m.ae)=>rE hF hk (t.getD 0 []).length;have hll:(ay m t ab (t.getD 0 []).length).length<=1000:=by rw[ay,dE,a_];exact hF.wd
 have Nt:=λi k=>@Qw m t ab i k;have hgl:=λi=>Kq lz t ab i;have hge:=Kp m t ab;have hg0:Tj m t ab 0=[]:=rfl;generalize Tj m t ab=G at*;generalize ay m t ab (t.getD 0 []).length=ls at*;simp -dsimp -implicitDefEqProofs only[go_sem];refine av hp (by simp[ax,ao,aq,aF]) ?_;simp -dsimp -implicitDefEqProofs only[go_sem];refine av hf (by simp[ax,ao,aq,aF]) ?_;simp -dsimp -implicitDefEqProofs only[go_sem];refine aj.up [1,2,3,8] [26,37,45,50,51,56] [13] (bx m).length (λi=>True) (λi=>[(10,eB ((bx m)[i]?).isSome),(9,MI ((bx m)[i]?)),(7,.ref 13 0 0 (G i).length)]) (λi=>[(13,.row 0 ⟨1,false⟩ (G i).isEmpty ((G i).map aM))]) trivial ?_ rfl (λi hi _=>?_) (λ_=>?_)
 . rw[hk1,hg0];simp -dsimp -implicitDefEqProofs only[go_sem,cY,Option.isSome_some,List.isEmpty_nil,b7,cM]
 . have gi:=get_some hi;have hki:=hK _ (uq9 hi);generalize (bx m)[i]=k at*;have hs:=Nt i k gi;have Za:=hgl i;have hnx:=qa m k lz hki.len hki.el;rw [yY (by omega) gi] at hnx;have hE:∀C:lL,C.isEmpty=false\/C.length=0:=λC=>by cases C with|nil=>exact .inr rfl|cons=>exact .inl rfl
   have e2:=λK:lL=>show (K++[k]).map aM=K.map aM++[aM k] by simp
   have e3:=λK:lL=>show (K++[k]).isEmpty=false by simp
   have hkl:=hO k hki.len;have hhk:=hH k;clear Nt hgl hO hH;generalize G i=K at*;generalize G (i+1)=K2 at*;rw[gi];generalize (bx m)[i+1]? =o at*;rw[Dj] at hnx;clear hK;have tK:(K.map aM).take K.length=K.map aM:=cm (by simp);simp -dsimp -implicitDefEqProofs only[go_sem,cY,Option.isSome_some];refine aj.up [1,2,3,7,8,9] [26,37] [] ls.length (λ_=>True) (λj=>[(12,eI j),(11,eB (Gs ls k j))]) (λ_=>[]) trivial ?_ rfl (λj hj _=>?_) (λ_=>?_)
   . simp -dsimp -implicitDefEqProofs only[go_sem];all_goals try exact rfl
   . have gj:=get_some hj;have lj:=aE hj;have hx:=hkl _ (uq9 hj);have hop:=rh ls[j] k hx.1 hx.2.1 hx.2.2;rw [Ck hj];generalize ls[j]=l at*;rcases hb:Gs ls k j with _|_
     . rw[Bool.false_or];generalize dX l k=b at*;simp -dsimp -implicitDefEqProofs only[go_sem,lj,gj];((with_reducible and_intros);all_goals try omega);refine aa hop ?_;simp -dsimp -implicitDefEqProofs only[go_sem];((with_reducible and_intros);all_goals try first|(refine ⟨?_,?_⟩<;>omega)|exact rfl)
     rw[Bool.true_or];simp -dsimp -implicitDefEqProofs only[go_sem,lj];((with_reducible and_intros);all_goals try first|(refine ⟨?_,?_⟩<;>omega)|exact rfl)
   unfold Ko at hs;rcases hb:Gs ls k ls.length with _|_
   . rw [hb,uq1,if_neg (by simp),List.append_nil] at hs;subst hs;have ebf:(false==true)=false:=rfl;simp -dsimp -implicitDefEqProofs only [go_sem,aA,ebf];refine av hnx (by simp [ax,ao,aq,aF]) ?_;cases o with
     |some k2=>
      simp -dsimp -implicitDefEqProofs only[go_sem,cY,Option.isSome_some]
     |none=>
      simp -dsimp -implicitDefEqProofs only[go_sem,fP,Option.isSome_none]
   rw[hb,uq3] at hs;have ebt:(true==true)=true:=rfl;rcases hin:DY ab k with _|_
   . rw [hin,if_pos (by simp)] at hs;rw [hin] at hhk;subst hs;simp -dsimp -implicitDefEqProofs only [go_sem,aA,ebt];refine aa hhk ?_;simp -dsimp -implicitDefEqProofs only [go_sem];refine .inr ⟨by omega,hE K,?_⟩;rw [←e2];refine av hnx (by simp [ax,ao,aq,aF]) ?_;cases o with
     |some k2=>
      simp -dsimp -implicitDefEqProofs only[go_sem,cY,Option.isSome_some,e3,e2]
     |none=>
      simp -dsimp -implicitDefEqProofs only[go_sem,fP,Option.isSome_none,e3,e2]
   rw[hin,if_neg (by simp),List.append_nil] at hs;rw[hin] at hhk;subst hs;simp -dsimp -implicitDefEqProofs only[go_sem,aA,ebt];refine aa hhk ?_;simp -dsimp -implicitDefEqProofs only[go_sem];refine av hnx (by simp[ax,ao,aq,aF]) ?_;cases o with
   |some k2=>
    simp -dsimp -implicitDefEqProofs only[go_sem,cY,Option.isSome_some]
   |none=>
    simp -dsimp -implicitDefEqProofs only[go_sem,fP,Option.isSome_none]
 rw[hge];have hn:(bx m)[(bx m).length]? =none:=by simp
 rw[hn];generalize cj m t ab=K at*;simp -dsimp -implicitDefEqProofs only[go_sem,fP,Option.isSome_none]
theorem y_ (m:aJ)(t ab:lL)(h:t.length<=1048576)(h2:∀x∈t,x.length<=1048576)(h3:ab.length<=1048576)(h4:∀x∈ab,x.length<=1048576):Fn pG 98 [jR m t,aQ ab] true (· = .aX [eI (if bh m t ab=true then (cj m t ab).length else 0),eI (if bh m t ab=true then 0 else 1)]):=by
 refine Fn.au 17 [.tmp 4,.tmp 5] func98 (hv:=?_);have hc:=p_ m t ab h h2 h3 h4;rcases hd:bh m t ab with _|_
 . rw[hd,if_neg (by simp)] at hc;rw[if_neg (by simp),if_neg (by simp)];have e:((1:Int) != 0)=true:=rfl;simp -dsimp -implicitDefEqProofs only[go_sem];refine aa hc ?_;simp -dsimp -implicitDefEqProofs only[go_sem,e]
 rw[hd,if_pos rfl] at hc;rw[if_pos rfl,if_pos rfl];have ho:=pC m t ab (iZ hd);have e:((0:Int) != 0)=false:=rfl;simp -dsimp -implicitDefEqProofs only[go_sem];refine aa hc ?_;simp -dsimp -implicitDefEqProofs only[go_sem,e];refine av ho (by simp[ax,ao,aq,aF]) ?_;simp -dsimp -implicitDefEqProofs only[go_sem]
open Go.RowKit
theorem Tk (w:World)(ad:Option Addr)(n cap:Nat):CallsIn Fence.wide 1 pG 173 #[.slice ad n cap] w λe w'=>e= .returned (.func (.func 225) #[] #[.pointer (some ⟨w.heap.size,0,none⟩)])/\w'=w.alloc (.cells #[.slice ad n cap] 164):=by
 refine callsIn_of_wp func173 rfl trivial ?_ rfl;simp only[Tryz.ntmps173,List.size_toArray,dL,cM,Nat.reduceAdd,Nat.reduceSub,Array.replicate_succ,Array.replicate_zero,List.push_toArray,List.append_toArray,List.nil_append,List.cons_append]
 gi_wp2
 go_ret
 exact ⟨rfl,rfl⟩
theorem Qx (l pb po n cap:Nat)(ad:Option Addr)(b2 o2:Nat)(f:Nat->Option Addr × Nat × Nat)(S:nP)(J Jx:List (Fin n)->World->Prop)(W0:World)
 (hS:S pb/\(n=0\/S b2)) (hn:n<=1048576)
 (h1:W0.cell? ⟨pb,po,none⟩=some (.slice ad n cap)) (h2:n=0\/ad=some ⟨b2,o2,none⟩) (h3:∀i,i<n->W0.cell? ⟨b2,o2+i,none⟩=some (.slice (f i).1 (f i).2.1 (f i).2.2))
 (hY:∀pre (x:Fin n) W1,J pre W1->pre.length<n->YieldAt Fence.wide 0 pG l #[.int .i64 ((n-1-x.1:Nat):Int),.slice (f (n-1-x.1)).1 (f (n-1-x.1)).2.1 (f (n-1-x.1)).2.2] W1 λe W'=>
   (e= .returned (.bool true)/\J (pre++[x]) W'/\∀b,S b->W'.heap[b]? =W1.heap[b]?)\/(e= .returned (.bool false)/\Jx (pre++[x]) W'))
 (h0:J [] W0):CallsIn Fence.wide 0 pG 225 #[.func (.yield l) #[] #[],.pointer (some ⟨pb,po,none⟩)] W0 λe W'=>(∃v,e= .returned v)/\((∃xs,xs=List.finRange n/\J xs W')\/(∃pre,True/\Jx pre W')):=by
 refine callsIn_of_wp func225 rfl trivial ?_ rfl;simp only[Tryz.ntmps225,List.size_toArray,dL,cM,Nat.reduceAdd,Nat.reduceSub,Array.replicate_succ,Array.replicate_zero,List.push_toArray,List.append_toArray,List.nil_append,List.cons_append]
 gi_wp2
 gi_loopw [3] (λv wr=>∃k:Nat,k<=n/\v= .int .i64 ((n:Int)-1-k)/\J ((List.finRange n).take k) wr/\∀b,S b->wr.heap[b]? =W0.heap[b]?)
  (λv _=>((RowKit.intOf v)+1).toNat)
 case atStart=>exact ⟨0,Nat.zero_le _,by simp,by simpa using h0,λ_ _=>rfl⟩
 case round=>
  obtain ⟨k,hk,rfl,hJ,i_⟩:=hrel;have hc:wr.cell? ⟨pb,po,none⟩=some (.slice ad n cap):=(World.cell?_of_block (i_ pb hS.1)).trans h1;by_cases hlt:k<n
  . obtain ⟨i,hi⟩:∃i:Nat,i=n-1-k:=⟨_,rfl⟩;have hi2:(n:Int)-1-k=(i:Int):=(by omega);have hin:i<n:=(by omega);have hb2:S b2:=hS.2.resolve_left (by omega);obtain rfl:=h2.resolve_left (by omega);have hc2:wr.cell? ⟨b2,o2+i,none⟩=some (.slice (f i).1 (f i).2.1 (f i).2.2):=(World.cell?_of_block (i_ b2 hb2)).trans (h3 i hin);have hY2:=hY ((List.finRange n).take k) ⟨k,hlt⟩ wr hJ (by simp;omega);rw [←hi] at hY2;rw [hi2];generalize (f i).1=f1 at hY2 hc2;generalize (f i).2.1=f2 at hY2 hc2;generalize (f i).2.2=f3 at hY2 hc2;have HD:Hid (i=n-1-k):=hi;clear h1 h3 hY hi hi2 hk;obtain ⟨fn,tmps,assign,body,hy,hR⟩:=hY2
    gi_wp2
    refine ⟨rfl,hR.mono ?_⟩;rintro e W3 (⟨rfl,hJ3,hk3⟩|⟨rfl,Zb⟩)
    . gi_wp2
      have hd:=HD.out;have ht:(List.finRange n).take (k+1)=(List.finRange n).take k++[⟨k,hlt⟩]:=by rw[List.take_add_one,uq8 (by simpa using hlt)];simp
      refine ⟨⟨k+1,hlt,?_,by rw[ht];exact hJ3,λb hb=>(hk3 b hb).trans (i_ b hb)⟩,?_⟩
      . rw[show ((i:Int)-1)=(n:Int)-1-((k+1:Nat):Int) by omega]
      simp only[RowKit.intOf];omega
    gi_wp2
    refine bodyPost_ret (results_none rfl _ _ _) rfl ?_;exact ⟨⟨_,rfl⟩,.inr ⟨_,trivial,Zb⟩⟩
  have hkn:k=n:=by omega
  have hi2:(n:Int)-1-k= -1:=by omega
  rw[hi2]
  gi_wp2
  go_end0
  rw[hkn,cm (by simp)] at hJ;exact ⟨⟨_,rfl⟩,.inl ⟨_,rfl,hJ⟩⟩
def gN (zs:lA):List (AV × AV):=(c_ zs.length).reverse.map λ(i:Nat)=>(eI (i:Int),zs.getD i .undef)
theorem qe (zs:lA):(gN zs).length=zs.length:=by simp[gN]
theorem Cl (zs:lA)(i:Fin (gN zs).length):(gN zs)[i]=(eI ((zs.length-1-i.1:Nat):Int),zs.getD (zs.length-1-i.1) .undef):=by have hi:i.1<zs.length:=Nat.lt_of_lt_of_eq i.2 (qe zs);show (gN zs)[i.1]=_;simp[gN,List.getElem_reverse]
theorem Je (zs:lA):Fn pG 173 [.arr ⟨1,false⟩ zs] false (λr=>r= .cn 225 [.bo ⟨1,false⟩ [.arr ⟨1,false⟩ zs] 0 0]):=by
 refine ⟨⟨_,_,func173,rfl,rfl⟩,λw S vs hS hk hsz hrd=>?_⟩;have h0:=hrd 0 (by simp)
 obtain ⟨v,rfl⟩:∃v,vs= #[v]:=⟨vs[0]'(by rw [hsz];simp),by
  refine Array.ext (by simp[hsz]) λi h1 h2=>?_;have:i=0:=by simp at h2;omega
  subst this;rfl⟩
 have h0:Rd w S (.arr ⟨1,false⟩ zs) v:=h0;have key:∀ad n cap,v= .slice ad n cap->Calls pG 173 #[v] w λe w'=>∃r v,e= .returned v/\r=AV.cn 225 [.bo ⟨1,false⟩ [.arr ⟨1,false⟩ zs] 0 0]/\Grown w w'/\iN w w' S false r v:=by
  rintro ad n cap rfl;refine (callsIn_wide.1 (Tk w ad n cap)).mono ?_;rintro e w' ⟨rfl,rfl⟩;have hb:(w.alloc (.cells #[.slice ad n cap] 164)).heap[w.heap.size]? =some (.cells #[.slice ad n cap] 164 (0,0)):=World.alloc_heap_new w _;have hg:Grown w (w.alloc (.cells #[.slice ad n cap] 164)):=⟨by simp,λb hb=>Below.heap_alloc _ _ b hb,⟨rfl,rfl,rfl⟩⟩;refine ⟨_,_,rfl,rfl,hg,?_⟩;show Rd _ _ _ _;refine .cn _ _ _ rfl λi hi=>?_;have:i=0:=by simp at hi;omega
  subst this
  have hr:Rd (w.alloc (.cells #[.slice ad n cap] 164)) (λb=>S b\/(w.heap.size<=b/\b<(w.alloc (.cells #[.slice ad n cap] 164)).heap.size)) (.arr ⟨1,false⟩ zs) (.slice ad n cap):=
   h0.mono (λb hb=>hg.same b (hS b hb)) λb hb=>.inl hb
  refine .bo ⟨1,false⟩ [.arr ⟨1,false⟩ zs] 0 0 w.heap.size 0 #[.slice ad n cap] _ _ (.inr ⟨j_ _,by simp⟩) hb (by simp) (λi hi=>?_) λi hi=>?_
  . have:i=0:=(by simp at hi;omega);subst this;exact ⟨rfl,rfl⟩
  have:i=0:=by simp at hi;omega
  subst this;exact hr
 cases h0 with
 |nil sh a=>exact key _ _ _ rfl
 |arr sh xs b off cap cs e fr=>exact key _ _ _ rfl
theorem Dr (zs zs2:lA)(hl2:zs2.length=zs.length)(hz:∀i (h:i<zs.length) (h2:i<zs2.length),∃ws,zs2[i]= .arr ⟨1,false⟩ ws/\(zs[i]=zs2[i]\/(zs[i]= .val (.slice none 0 0)/\ws=[])))(hn:zs.length<=1048576):
 Ui pG 225 [.bo ⟨1,false⟩ [.arr ⟨1,false⟩ zs] 0 0] (gN zs2):=by
 refine ⟨Go.Proofs.enters_of func225 (by kernel_rfl) rfl,λw S cs hS hcs hrd=>?_⟩;have h0:=hrd 0 (by simp)
 obtain ⟨p,rfl⟩:∃v,cs= #[v]:=⟨cs[0]'(by rw [hcs];simp),by
  refine Array.ext (by simp[hcs]) λi h1 h2=>?_;have:i=0:=by simp at h2;omega
  subst this;rfl⟩
 have h0:Rd w S (.bo ⟨1,false⟩ [.arr ⟨1,false⟩ zs] 0 0) p:=h0;obtain ⟨b,off,cs1,e1,fr1,hSb,hb,hl,hv,rfl⟩:∃b off cs1 e1 fr1,S b/\w.heap[b]? =some (.cells cs1 e1 fr1)/\off<cs1.size/\Rd w S (.arr ⟨1,false⟩ zs) (cs1.toList.getD off uD)/\p= .pointer (some ⟨b,off,none⟩):=by
  cases h0 with
  |bo _ _ _ _ b off cs1 e1 fr1 hS' hb hl hf hv=>
   refine ⟨b,off,cs1,e1,fr1,hS',hb,?_,?_,by simp⟩
   . simp at hl;omega
   have:=hv 0 (by simp);simpa [elemV] using this
 have vN:w.cell? ⟨b,off,none⟩=some (cs1.toList.getD off uD):=by simp[World.cell?,hb,uq7,hl]
 have key:∀(ad:Option Addr) (cap:Nat) (b2 o2:Nat),cs1.toList.getD off uD= .slice ad zs.length cap->(zs.length=0\/S b2)->(zs.length=0\/ad=some ⟨b2,o2,none⟩)→
  (∀i (h:i<zs.length),∃u,w.cell? ⟨b2,o2+i,none⟩=some u/\Rd w S zs[i] u)->∃vs:Fin (gN zs2).length->Value × Value,(∀i,Rd w S (gN zs2)[i].1 (vs i).1/\Rd w S (gN zs2)[i].2 (vs i).2)∧
  SeqStopsK Fence.wide 0 pG 225 #[.pointer (some ⟨b,off,none⟩)] (λi=> #[(vs i).1,(vs i).2]) (λA B=>∀b,S b->B.heap[b]? =A.heap[b]?) (λl=>l=List.finRange (gN zs2).length) (λ_=>True) (gN zs2).length w:=by
  intro ad cap b2 o2 hsv XX had hcl;have:∀i,∃q:Option Addr × Nat × Nat,∀(h:i<zs.length) (h2:i<zs2.length),w.cell? ⟨b2,o2+i,none⟩=some (.slice q.1 q.2.1 q.2.2)/\Rd w S zs2[i] (.slice q.1 q.2.1 q.2.2):=by
   intro i;by_cases h:i<zs.length
   . obtain ⟨u,h1,h2⟩:=hcl i h;obtain ⟨ws,hw,hw2⟩:=hz i h (by omega);rcases hw2 with hw2|⟨hw2,hws⟩
     . rw [hw2,hw] at h2;cases h2 with
       |nil sh a=>exact ⟨(a,0,0),λ_ _=>⟨h1,by rw[hw];exact .nil _ _⟩⟩
       |arr sh xs b3 o3 c3 cs3 e3 f3 q1 q2 q3 q4 q5 q6=>exact ⟨(some ⟨b3,o3,none⟩,_,c3),λ_ _=>⟨h1,by rw[hw];exact .arr _ _ b3 o3 c3 cs3 e3 f3 q1 q2 q3 q4 q5 q6⟩⟩
     rw[hw2] at h2;cases h2 with
     |val _ _=>exact ⟨(none,0,0),λ_ _=>⟨h1,by rw[hw,hws];exact .nil _ _⟩⟩
   exact ⟨(none,0,0),λh'=>absurd h' h⟩
  obtain ⟨f,hf⟩:=Classical.axiomOfChoice this;have hlen:=qe zs2;refine ⟨λx=>(.int .i64 (((gN zs2).length-1-x.1:Nat):Int),.slice (f ((gN zs2).length-1-x.1)).1 (f ((gN zs2).length-1-x.1)).2.1 (f ((gN zs2).length-1-x.1)).2.2),λi=>?_,λl J Jx W hW hJ hJx hY h0=>?_⟩
  . have hi:(gN zs2).length-1-i.1<zs2.length:=(by have:=i.2;omega);have e:zs2.length-1-i.1=(gN zs2).length-1-i.1:=(by omega);rw[Cl,e];refine ⟨.val _ rfl,?_⟩;have:=(hf _ (by omega) hi).2;simp only[uq7,uq8 hi];exact this
  have XY:∀q,S q->W.heap[q]? =w.heap[q]? :=λq hq=>hW.block q (hS q hq);refine Qx l b off (gN zs2).length cap ad b2 o2 f S J Jx W ⟨hSb,by rw[hlen,hl2];exact XX⟩ (by rw[hlen,hl2];exact hn) ?_ (by rw[hlen,hl2];exact had) (λi hi=>?_) hY h0
  . rw[World.cell?_of_block (XY b hSb),vN,hsv,hlen,hl2]
  have hi':i<zs.length:=by rw[←hl2,←hlen];exact hi
  rw[World.cell?_of_block (XY b2 (XX.resolve_left (by omega)))];exact (hf i hi' (by omega)).1
 generalize hq:cs1.toList.getD off uD=q at hv key;cases hv with
 |nil sh a=>exact key a 0 0 0 rfl (.inl rfl) (.inl rfl) λi h=>absurd h (DO _)
 |arr sh xs b2 o2 cap cs2 e2 fr2 h1 h2 h3 h4 h5 h6=>
  refine key _ cap b2 o2 rfl (.inr h1) (.inr rfl) λi h=>⟨_,?_,h6 i h⟩;simp at h4;have:o2+i<cs2.size:=by omega
  simp[World.cell?,h2,elemV,uq7,this]
theorem Gt {σ:Type}{m:aJ}{f:σ->lI->σ × Bool}{J:Nat->σ->Prop}(mono:∀a b s,a<=b->J a s->J b s){n:Nat}{c:lI}(hc:∀(c':lI) (t:KS σ) (b:Nat),J b t.s->J (b+8^n) (bn m f n c' t).1.s)(t:KS σ)(b:Nat)(h:J b t.s):
 ∀D:Nat,J (b+D*8^n) (eO (aT m f n c) t D).1.s
 |0=>by rw[Nat.zero_mul,Nat.add_zero];exact h
 |D+1=>by
  have ih:=Gt mono hc t b h D (c:=c);have hle:b+D*8^n<=b+(D+1)*8^n:=Nat.add_le_add_left (Nat.mul_le_mul_right _ (Nat.le_succ D)) b;by_cases hb:(eO (aT m f n c) t D).2=true
  . rw [iW hb];generalize (eO (aT m f n c) t D).1=u at*;unfold aT;split
    . split
      . have:=hc (c++[(D:Int)]) ⟨u.af+1,u.zs.take c.length++[(D:Int)],u.s⟩ _ ih;rw[Nat.succ_mul,←Nat.add_assoc];exact this
      exact mono _ _ _ hle ih
    exact mono _ _ _ hle ih
  rw[eO,if_neg hb];exact mono _ _ _ hle ih
theorem za {σ:Type}{m:aJ}(hm:aU m=true){f:σ->lI->σ × Bool}{J:Nat->σ->Prop}(mono:∀a b s,a<=b->J a s->J b s)(step:∀b s k,J b s->J (b+1) (f s k).1):
 ∀(n:Nat)(c:lI)(t:KS σ)(b:Nat),J b t.s->J (b+8^n) (bn m f n c t).1.s
 |0,c,t,b,h=>by
  simp only[bn];split
  . exact mono _ _ _ (by omega) h
  exact step _ _ _ h
 |n+1,c,t,b,h=>by
  have hd:m.ak.toNat<=8:=by have:=aI hm;omega
  have:=Gt mono (λc' t' b'=>za hm mono step n c' t' b') t b h m.ak.toNat (c:=c);rw[dS];refine mono _ _ _ ?_ this;have h2:m.ak.toNat*8^n<=8*8^n:=Nat.mul_le_mul_right _ hd;rw[Nat.pow_succ,Nat.mul_comm (8^n) 8];omega
def bR (ls:List lL)(ab:lL)(st:lI)(k:lI):lI × Bool:=
 (if DY ab k=true then st else st.set (bD ls k ls.length).length (st.getD (bD ls k ls.length).length 0+1),true)
def qI (n b:Nat)(st:lI):Prop:=st.length=n/\∀x∈st,0<=x/\x<=(b:Int)
theorem nS (n:Nat):∀a b s,a<=b->qI n a s->qI n b s:=λa b s h hs=>⟨hs.1,λx hx=>by have:=hs.2 x hx;omega⟩
theorem zb (n:Nat)(ls:List lL)(ab:lL):∀b s k,qI n b s->qI n (b+1) (bR ls ab s k).1:=by
 intro b s k h;unfold bR;simp only;split
 . exact nS n b (b+1) s (by omega) h
 refine ⟨by rw[List.length_set];exact h.1,λx hx=>?_⟩;rcases List.mem_or_eq_of_mem_set hx with hx|rfl
 . have:=h.2 x hx;omega
 have:0<=s.getD (bD ls k ls.length).length 0/\s.getD (bD ls k ls.length).length 0<=(b:Int):=by
  rw[uq7];cases he:s[(bD ls k ls.length).length]? with
  |none=>first|(simp;done)|(simp;omega)
  |some y=>exact h.2 y (List.mem_of_getElem? he)
 omega
theorem ur (ls:List lL)(k:lI):∀n,n<=ls.length->Gs ls k n=decide (0<(bD ls k n).length)
 |0,_=>rfl
 |n+1,h=>by
  have eg:ls.getD n []=ls[n]:=by rw[uq7,uq8 (by omega)];rfl
  rw[Ck (by omega),ur ls k n (by omega),bD,eg];cases dX ls[n] k with
  |true=>rw[if_pos rfl,Bool.or_true,decide_eq_true (by simp)]
  |false=>rw[if_neg (by simp),Bool.or_false]
theorem Gu:∀(r:lI) (j:Nat),j<r.length->(r.set j (r.getD j 0+1)).sum=r.sum+1
 | [],j,h=>absurd h (DO _)
 |a::r,0,_=>by simp;omega
 |a::r,j+1,h=>by have:=Gu r j (by simpa using h);simp only[List.set_cons_succ,List.getD_cons_succ,List.sum_cons,this];omega
theorem Ds (st:lI)(i:Nat)(h:i<st.length):((st.set i (st.getD i 0+1)).drop 1).sum=(st.drop 1).sum+if 0<i then 1 else 0:=by
 cases st with
 |nil=>exact absurd h (DO _)
 |cons a r=>
  cases i with
  |zero=>simp
  |succ j=>
   rw[if_pos (by omega)];simp only[List.set_cons_succ,List.getD_cons_succ,uq5,uq6];exact Gu r j (by simpa using h)
theorem rG (ls:List lL)(ab:lL):∀(ks:lL) (st:lI),st.length=ls.length+1→
 (bC (bR ls ab) st ks).2=true/\(bC (bR ls ab) st ks).1.length=ls.length+1/\((bC (bR ls ab) st ks).1.drop 1).sum=(st.drop 1).sum+((ks.filter (Ko ls ab)).length:Int)
 | [],st,h=>⟨rfl,h,by simp[bC]⟩
 |k::ks,st,h=>by
  have ht:(bR ls ab st k).2=true:=rfl;have hl:(bR ls ab st k).1.length=ls.length+1:=by
   unfold bR;simp only;split
   . exact h
   rw[List.length_set];exact h
  obtain ⟨i1,i2,i3⟩:=rG ls ab ks (bR ls ab st k).1 hl;rw [bC,if_pos ht];refine ⟨i1,i2,?_⟩;rw [i3,List.filter_cons];have hd:=gE ls k ls.length;have hs:((bR ls ab st k).1.drop 1).sum=(st.drop 1).sum+if Ko ls ab k=true then 1 else 0:=by
   unfold bR Ko;simp only;rw[ur ls k ls.length (j_ _)];cases hin:DY ab k with
   |true=>simp
   |false=>
    rw[if_neg (by simp),Ds st _ (by omega)];by_cases h0:0<(bD ls k ls.length).length
    . rw[if_pos h0,decide_eq_true h0,if_pos (by rfl)]
    rw[if_neg h0,decide_eq_false h0,if_neg (by simp)]
  rw[hs];split
  . simp only[dL];push_cast;omega
  omega
structure Gv (m:aJ) (ab:lL) (ls:List lL) (n1:Nat):Prop where
 cl:ab.length<=1048576
 cx:∀x∈ab,x.length<=1048576
 ll:ls.length<=1000
 lk:∀l∈ls,(l.length:Int)=m.ae/\∀x∈l,x.length<=1048576
 n1:ls.length<n1
theorem Xq (m:aJ)(ab:lL)(ls:List lL)(n1:Nat)(hV:Gv m ab ls n1)(c:lI)(af:Nat)(ys:lA)(st:lI)(hc:(c.length:Int)=m.ae)(hc6:c.length<=6)(hy:ys.take c.length=c.map eI)(hs:∃b:Nat,qI n1 b st/\b+1<=1000000):
 fN pG 223 [(1700000010,.row af ⟨1,false⟩ true ys),(1600000004,.box 0 [aQ ab]),(1600000005,.box 0 [.cn 265 [.ptr 1500000005 0 0 0]]),(1600000006,.box 0 [qi ls]),(1500000005,.box 0 [.ref 1500000012 0 0 n1]),(1500000012,.row 0 ⟨1,false⟩ true (ba eI st))] [.ref 1700000010 af 0 c.length,.ptr 1600000004 0 0 0,.ptr 1600000005 0 0 0,.ptr 1600000006 0 0 0]
  (λr m'=>r=eB (bR ls ab st c).2/\m'=[(1700000010,.row af ⟨1,false⟩ true ys),(1600000004,.box 0 [aQ ab]),(1600000005,.box 0 [.cn 265 [.ptr 1500000005 0 0 0]]),(1600000006,.box 0 [qi ls]),(1500000005,.box 0 [.ref 1500000012 0 0 n1]),(1500000012,.row 0 ⟨1,false⟩ true (ba eI ((bR ls ab st c).1)))]):=by
 refine fN.cT 17 [.tmp 5] func223 (hv:=?_);have DR:=y9 ab c hV.cl hV.cx;have hdo:=mf ls c hV.ll (λl hl=>⟨by have:=(hV.lk l hl).1;omega,by have:=(hV.lk l hl).1;omega,(hV.lk l hl).2⟩);have hdl:=gE ls c ls.length;have hn1:=hV.n1;obtain ⟨b,⟨hst,hsb⟩,hb⟩:=hs;have hyl:c.length<=ys.length:=by have:=congrArg List.length hy;simp at this;omega
 simp -dsimp -implicitDefEqProofs only[go_sem];refine aj.lB 9 mixed rfl ?_;simp -dsimp -implicitDefEqProofs only[fu,da,uq5,uq6];rcases hin:DY ab c with _|_
 . rw [hin] at DR;have hr:bR ls ab st c=(st.set (bD ls c ls.length).length (st.getD (bD ls c ls.length).length 0+1),true):=(by rw [bR,hin,if_neg (by simp)]);rw [hr];generalize bD ls c ls.length=D at*;have hDl:D.length<st.length:=(by omega);have gD:st[D.length]? =some (st.getD D.length 0):=(by rw [uq7,uq8 hDl];rfl);have hDb:=hsb (st.getD D.length 0) (List.mem_of_getElem? gD);generalize st.getD D.length 0=z at*;simp -dsimp -implicitDefEqProofs only [go_sem,hy,uq6];refine ⟨hyl,?_⟩;(refine an (DR) ?_;try simp -dsimp -implicitDefEqProofs only [go_sem, *]);(refine an (hdo) ?_;try simp -dsimp -implicitDefEqProofs only [go_sem, *]);refine ⟨by exact rfl,?_⟩;refine bJ 430000 13 [.tmp 5] func265 rfl rfl rfl rfl rfl (by exact oT rfl) ?_;simp -dsimp -implicitDefEqProofs only [go_sem,gD];refine ⟨⟨by omega,by omega⟩,⟨by omega,by omega⟩,⟨by omega,by omega⟩,_,rfl,aO ?_ ?_⟩
   . simp -dsimp -implicitDefEqProofs only[go_sem,List.map_set]
   simp -dsimp -implicitDefEqProofs only[go_sem];simp[ao,aq,ck]
 rw[hin] at DR;have hr:bR ls ab st c=(st,true):=by rw[bR,hin,if_pos rfl]
 rw[hr];simp -dsimp -implicitDefEqProofs only[go_sem,hy,uq6];refine ⟨hyl,?_⟩;(refine an (DR) ?_;try simp -dsimp -implicitDefEqProofs only[go_sem, *]);refine ⟨by exact rfl,_,rfl,aO ?_ ?_⟩
 . simp -dsimp -implicitDefEqProofs only[go_sem]
 simp -dsimp -implicitDefEqProofs only[go_sem];simp[ao,aq,ck]
theorem Xr (m:aJ)(hm:aU m=true)(ab:lL)(ls:List lL)(n1:Nat)(hV:Gv m ab ls n1):∀(n:Nat) (c:lI) (t:KS lI),(c.length:Int)+n=m.ae->(∀x∈c,0<=x/\x<=7)->DW c t->(∃b:Nat,qI n1 b t.s/\b+8^n<=1000000)→
 fN pG 262 [(1700000008,.box 0 [.ref 1700000010 t.af 0 c.length]),(1700000010,.row t.af ⟨1,false⟩ true (t.zs.map eI)),(1700000004,.box 0 [eI m.ae,eI m.ak,eI m.step,eI m.same,eI m.least]),(1700000007,.box 0 [.cn 223 [.ptr 1600000004 0 0 0,.ptr 1600000005 0 0 0,.ptr 1600000006 0 0 0]]),(1700000005,.box 0 [.val (.slice none 0 0)]),(1700000006,.box 0 [.val .nilFunc]),(1700000009,.box 0 [.cn 262 [.ptr 1700000008 0 0 0,.ptr 1700000004 0 0 0,.ptr 1700000007 0 0 0,.ptr 1700000005 0 0 0,.ptr 1700000006 0 0 0,.ptr 1700000009 0 0 0]]),(1600000004,.box 0 [aQ ab]),(1600000005,.box 0 [.cn 265 [.ptr 1500000005 0 0 0]]),(1600000006,.box 0 [qi ls]),(1500000005,.box 0 [.ref 1500000012 0 0 n1]),(1500000012,.row 0 ⟨1,false⟩ true (ba eI t.s))] [eB false,.ptr 1700000008 0 0 0,.ptr 1700000004 0 0 0,.ptr 1700000007 0 0 0,.ptr 1700000005 0 0 0,.ptr 1700000006 0 0 0,.ptr 1700000009 0 0 0]
  (λr m'=>r=eB (bn m (bR ls ab) n c t).2/\m'=[(1700000008,.box 0 [.ref 1700000010 (bn m (bR ls ab) n c t).1.af 0 c.length]),(1700000010,.row (bn m (bR ls ab) n c t).1.af ⟨1,false⟩ true ((bn m (bR ls ab) n c t).1.zs.map eI)),(1700000004,.box 0 [eI m.ae,eI m.ak,eI m.step,eI m.same,eI m.least]),(1700000007,.box 0 [.cn 223 [.ptr 1600000004 0 0 0,.ptr 1600000005 0 0 0,.ptr 1600000006 0 0 0]]),(1700000005,.box 0 [.val (.slice none 0 0)]),(1700000006,.box 0 [.val .nilFunc]),(1700000009,.box 0 [.cn 262 [.ptr 1700000008 0 0 0,.ptr 1700000004 0 0 0,.ptr 1700000007 0 0 0,.ptr 1700000005 0 0 0,.ptr 1700000006 0 0 0,.ptr 1700000009 0 0 0]]),(1600000004,.box 0 [aQ ab]),(1600000005,.box 0 [.cn 265 [.ptr 1500000005 0 0 0]]),(1600000006,.box 0 [qi ls]),(1500000005,.box 0 [.ref 1500000012 0 0 n1]),(1500000012,.row 0 ⟨1,false⟩ true (ba eI ((bn m (bR ls ab) n c t).1.s)))]):=by
 intro n;have ⟨⟨zy,zz⟩,hd1,hd2⟩:=aI hm;induction n with
 |zero=>
  intro c t hl hc hz hs;have hk:((c.length:Int)==m.ae)=true:=beq_iff_eq.2 (by omega);have ht:di c.length (ba eI t.zs)=ba eI c:=by rw[←List.map_take,hz.1]
  have hzl:c.length<=(ba eI t.zs).length:=by simpa using hz.2
  refine fN.cT 91 [.tmp 8] func262 (hv:=?_);simp -dsimp -implicitDefEqProofs only[go_sem,hk];refine aj.lB 8 mixed rfl ?_;simp -dsimp -implicitDefEqProofs only[fu,da,uq5,uq6];have tf:=iE c (by omega);rcases hq:decide ((bg c c.length:Int)<m.least) with _|_
  . have hq':=of_decide_eq_false hq;have e6:bn m (bR ls ab) 0 c t=(⟨t.af,t.zs,((bR ls ab) t.s c).1⟩,((bR ls ab) t.s c).2):=(by rw [bn,if_neg hq']);rw [e6];simp -dsimp -implicitDefEqProofs only [go_sem,ht,uq6];refine ⟨hz.2,?_⟩;(refine an (tf) ?_;try simp -dsimp -implicitDefEqProofs only [go_sem, *]);refine ⟨by exact rfl,hz.2,?_⟩;refine cU (Xq m ab ls n1 hV c t.af (t.zs.map eI) t.s (by omega) (by omega) ht (by simpa using hs)) ⟨⟨?_,?_⟩,?_,?_⟩ ?_
    . simp -dsimp -implicitDefEqProofs only[go_sem]
    . simp -dsimp -implicitDefEqProofs only[go_sem];simp[ao,aq,ck]
    . simp -dsimp -implicitDefEqProofs only[go_sem]
    . simp -dsimp -implicitDefEqProofs only[go_sem];simp
    rintro r m' ⟨hr,hm'⟩;rw[hr,hm'];simp -dsimp -implicitDefEqProofs only[go_sem];refine ⟨_,rfl,aO ?_ ?_⟩
    . simp -dsimp -implicitDefEqProofs only[go_sem]
    simp -dsimp -implicitDefEqProofs only[go_sem];simp[ao,aq,ck]
  have hq':=oT hq;have e6:bn m (bR ls ab) 0 c t=(t,true):=by rw[bn,if_pos hq']
  rw[e6];simp -dsimp -implicitDefEqProofs only[go_sem,ht,uq6];refine ⟨hz.2,?_⟩;(refine an (tf) ?_;try simp -dsimp -implicitDefEqProofs only[go_sem, *]);refine ⟨by exact rfl,_,rfl,aO ?_ ?_⟩
  . simp -dsimp -implicitDefEqProofs only[go_sem]
  simp -dsimp -implicitDefEqProofs only[go_sem];simp[ao,aq,ck]
 |succ n ih=>
  intro c t hl hc hz hs;have hk:((c.length:Int)==m.ae)=false:=beq_eq_false_iff_ne.2 (by omega);refine fN.cT 91 [.tmp 8] func262 (hv:=?_);simp -dsimp -implicitDefEqProofs only[go_sem,hk];refine aj.up [0,1,2,5,6,9,10] [47,61,69,70,72,84] [1700000008,1700000010,1500000012] m.ak.toNat (λi=>(eO (aT m (bR ls ab) n c) t i).2=true) (λi=>[(11,eI i)]) (λi=>[(1700000008,.box 0 [.ref 1700000010 (eO (aT m (bR ls ab) n c) t i).1.af 0 c.length]),(1700000010,.row (eO (aT m (bR ls ab) n c) t i).1.af ⟨1,false⟩ true ((eO (aT m (bR ls ab) n c) t i).1.zs.map eI)),(1500000012,.row 0 ⟨1,false⟩ true (ba eI ((eO (aT m (bR ls ab) n c) t i).1.s)))]) rfl ?_ rfl (λi hi hI=>?_) (λhI=>?_)
  . simp -dsimp -implicitDefEqProofs only[go_sem];simp[eO]
  . have hu:DW c (eO (aT m (bR ls ab) n c) t i).1:=p8 hz i;have kx:∃b:Nat,qI n1 b (eO (aT m (bR ls ab) n c) t i).1.s/\b+8^n<=1000000:=by
     obtain ⟨b0,hJ0,hb0⟩:=hs;refine ⟨b0+i*8^n,Gt (nS n1) (λc' t' b'=>za hm (nS n1) (zb n1 ls ab) n c' t' b') t b0 hJ0 i,?_⟩;have h8:(i+1)*8^n<=8*8^n:=Nat.mul_le_mul_right _ (by omega);have h9:(i+1)*8^n=i*8^n+8^n:=Nat.succ_mul i (8^n);have h10:8^(n+1)=8*8^n:=(by rw[Nat.pow_succ,Nat.mul_comm]);omega
    have hlt:decide ((i:Int)<m.ak)=true:=dT (by omega);have hS:=iW hI;have cy:(aT m (bR ls ab) n c i (eO (aT m (bR ls ab) n c) t i).1).2=false->bn m (bR ls ab) (n+1) c t=aT m (bR ls ab) n c i (eO (aT m (bR ls ab) n c) t i).1:=λh=>by rw[←hS] at h ⊢;rw[dS,pj h m.ak.toNat (by omega)]
    rw[hS];clear hS hI;generalize (eO (aT m (bR ls ab) n c) t i).1=u at*;obtain ⟨hu1,hu2⟩:=hu;have htk:di c.length (ba eI u.zs)=ba eI c:=(by rw[←List.map_take,hu1]);have hcl:c.length<=6:=(by omega)
    have hih:=ih (c++[(i:Int)]) ⟨u.af+1,c++[(i:Int)],u.s⟩ (by simp;omega) (λx hx=>by
     rcases List.mem_append.1 hx with h|h
     . exact hc x h
     simp at h;omega) ⟨e8,j_ _⟩ kx
    simp only [bk,dL,cM,Nat.zero_add] at hih;have cH:=kE (c++[(i:Int)]) (by simp) (by simp;omega);simp only [bk,dL,cM,Nat.zero_add,Nat.add_sub_cancel] at cH;have oB:ba eI c++[eI (i:Int)]=ba eI (c++[(i:Int)]):=(by simp);have l8:bK m c i=(c.isEmpty|| !decide (fm ((i:Int)-c.getD (c.length-1) 0)>m.step)):=by
     unfold bK;congr 1;by_cases h:fm ((i:Int)-c.getD (c.length-1) 0)<=m.step
     . rw[decide_eq_true h,decide_eq_false (by omega)];rfl
     rw[decide_eq_false h,decide_eq_true (by omega)];rfl
    have dM:gb m c i= !decide ((aZ (c++[(i:Int)]) c.length:Int)>m.same):=by
     unfold gb;by_cases h:(aZ (c++[(i:Int)]) c.length:Int)<=m.same
     . rw[decide_eq_true h,decide_eq_false (by omega)];rfl
     rw[decide_eq_false h,decide_eq_true (by omega)];rfl
    simp -dsimp -implicitDefEqProofs only[go_sem,hlt];refine aj.draw mixed rfl ?_;have hfn:rR pG 216 .neq=some false:=rfl;rcases hk0:decide ((c.length:Int)>0) with _|_
    . have hce:c=[]:=by
       have:=of_decide_eq_false hk0;exact List.eq_nil_of_length_eq_zero (by omega)
      have hsT:bK m c i=true:=(by rw[hce];rfl);clear hce;simp -dsimp -implicitDefEqProofs only[go_sem,hfn,hk0];refine ⟨by exact rfl,hu2,by omega,?_⟩;refine aj.lB 13 mixed rfl ?_;simp -dsimp -implicitDefEqProofs only[fu,da,uq5,uq6];have htl:di (c.length+1) (ba eI (c++[(i:Int)]))=ba eI (c++[(i:Int)]):=cm (by simp);rcases hq2:decide ((aZ (c++[(i:Int)]) c.length:Int)>m.same) with _|_
      . have hcB:aT m (bR ls ab) n c i u=bn m (bR ls ab) n (c++[(i:Int)]) ⟨u.af+1,c++[(i:Int)],u.s⟩:=(by rw [aT,if_pos hsT,if_pos (by rw [dM,hq2];rfl),hu1]);rw [hcB] at cy ⊢;clear hcB;generalize bn m (bR ls ab) n (c++[(i:Int)]) ⟨u.af+1,c++[(i:Int)],u.s⟩=w at*;obtain ⟨w,b⟩:=w;simp -dsimp -implicitDefEqProofs only [go_sem,htk,oB,htl];(refine an (cH) ?_;try simp -dsimp -implicitDefEqProofs only [go_sem, *]);refine ⟨by exact rfl,?_⟩;refine cU hih ⟨⟨?_,?_⟩,?_,?_⟩ ?_
        . simp -dsimp -implicitDefEqProofs only[go_sem]
        . simp -dsimp -implicitDefEqProofs only[go_sem];simp[ao,aq,ck]
        . simp -dsimp -implicitDefEqProofs only[go_sem]
        . simp -dsimp -implicitDefEqProofs only[go_sem];simp
        rintro r m' ⟨hr,hm'⟩;rw[hr,hm'];clear hr hm';cases b with
        |false=>
         rw[cy rfl];simp -dsimp -implicitDefEqProofs only[go_sem];refine ⟨by omega,_,rfl,aO ?_ ?_⟩
         . simp -dsimp -implicitDefEqProofs only[go_sem]
         simp -dsimp -implicitDefEqProofs only[go_sem];simp[ao,aq,ck]
        |true=>
         simp -dsimp -implicitDefEqProofs only[go_sem];exact ⟨by omega,⟨by omega,by omega⟩,by simp⟩
      have hcB:aT m (bR ls ab) n c i u=(⟨u.af+1,c++[(i:Int)],u.s⟩,true):=(by rw[aT,if_pos hsT,if_neg (by rw[dM,hq2];exact λh=>by cases h),hu1]);rw[hcB];clear hcB cy;simp -dsimp -implicitDefEqProofs only[go_sem,htk,oB,htl];(refine an (cH) ?_;try simp -dsimp -implicitDefEqProofs only[go_sem, *]);exact ⟨by exact rfl,by omega,⟨by omega,by omega⟩,by simp⟩
    have hkp:=oT hk0;have hla:c.getD (c.length-1) 0=c[c.length-1]:=(by simp[uq7,show c.length-1<c.length by omega]);have kc:(ba eI u.zs)[c.length-1]? =some (eI (c.getD (c.length-1) 0)):=by have h1:(di c.length (ba eI u.zs))[c.length-1]? =(ba eI u.zs)[c.length-1]? :=(by rw[List.getElem?_take];simp;omega);rw[←h1,htk,hla];simp[show c.length-1<c.length by omega]
    have hlb:=hc _ (uq9 (show c.length-1<c.length by omega));rw[←hla] at hlb;generalize c.getD (c.length-1) 0=z at*;clear hla;have e1:((c.length:Int)-1).toNat=c.length-1:=(by omega);have ql:=jr ((i:Int)-z) (by omega);rcases hq:decide (fm ((i:Int)-z)>m.step) with _|_
    . have hsT:bK m c i=true:=(by rw [l8,hq];simp);simp -dsimp -implicitDefEqProofs only [go_sem,hfn,hk0,e1,kc];refine ⟨⟨by omega,by omega⟩,⟨by omega,by omega⟩,⟨by omega,by omega⟩,?_⟩;(refine an (ql) ?_;try simp -dsimp -implicitDefEqProofs only [go_sem, *]);refine ⟨by exact rfl,by omega,?_⟩;refine aj.lB 13 mixed rfl ?_;simp -dsimp -implicitDefEqProofs only [fu,da,uq5,uq6];have htl:di (c.length+1) (ba eI (c++[(i:Int)]))=ba eI (c++[(i:Int)]):=cm (by simp);rcases hq2:decide ((aZ (c++[(i:Int)]) c.length:Int)>m.same) with _|_
      . have hcB:aT m (bR ls ab) n c i u=bn m (bR ls ab) n (c++[(i:Int)]) ⟨u.af+1,c++[(i:Int)],u.s⟩:=(by rw [aT,if_pos hsT,if_pos (by rw [dM,hq2];rfl),hu1]);rw [hcB] at cy ⊢;clear hcB;generalize bn m (bR ls ab) n (c++[(i:Int)]) ⟨u.af+1,c++[(i:Int)],u.s⟩=w at*;obtain ⟨w,b⟩:=w;simp -dsimp -implicitDefEqProofs only [go_sem,htl];(refine an (cH) ?_;try simp -dsimp -implicitDefEqProofs only [go_sem, *]);refine ⟨by exact rfl,?_⟩;refine cU hih ⟨⟨?_,?_⟩,?_,?_⟩ ?_
        . simp -dsimp -implicitDefEqProofs only[go_sem]
        . simp -dsimp -implicitDefEqProofs only[go_sem];simp[ao,aq,ck]
        . simp -dsimp -implicitDefEqProofs only[go_sem]
        . simp -dsimp -implicitDefEqProofs only[go_sem];simp
        rintro r m' ⟨hr,hm'⟩;rw[hr,hm'];clear hr hm';cases b with
        |false=>
         rw[cy rfl];simp -dsimp -implicitDefEqProofs only[go_sem];refine ⟨by omega,_,rfl,aO ?_ ?_⟩
         . simp -dsimp -implicitDefEqProofs only[go_sem]
         simp -dsimp -implicitDefEqProofs only[go_sem];simp[ao,aq,ck]
        |true=>
         simp -dsimp -implicitDefEqProofs only[go_sem];exact ⟨by omega,⟨by omega,by omega⟩,by simp⟩
      have hcB:aT m (bR ls ab) n c i u=(⟨u.af+1,c++[(i:Int)],u.s⟩,true):=(by rw[aT,if_pos hsT,if_neg (by rw[dM,hq2];exact λh=>by cases h),hu1]);rw[hcB];clear hcB cy;simp -dsimp -implicitDefEqProofs only[go_sem,htl];(refine an (cH) ?_;try simp -dsimp -implicitDefEqProofs only[go_sem, *]);exact ⟨by exact rfl,by omega,⟨by omega,by omega⟩,by simp⟩
    have hsF:bK m c i=false:=by
     rw[l8,hq];cases c with
     |nil=>simp at hkp
     |cons=>rfl
    have hcB:aT m (bR ls ab) n c i u=(u,true):=(by rw[aT,if_neg (by rw[hsF];exact λh=>by cases h)]);rw[hcB];clear hcB cy;simp -dsimp -implicitDefEqProofs only[go_sem,hfn,hk0,e1,kc];refine ⟨⟨by omega,by omega⟩,⟨by omega,by omega⟩,⟨by omega,by omega⟩,?_⟩;(refine an (ql) ?_;try simp -dsimp -implicitDefEqProofs only[go_sem, *]);exact ⟨by exact rfl,⟨by omega,by omega⟩,by simp⟩
  simp -dsimp -implicitDefEqProofs only[pz,Nat.reduceBEq,Nat.reduceDiv,Nat.reduceAdd,↓reduceIte,Nat.reduceEqDiff];have hlt:decide (((m.ak.toNat:Nat):Int)<m.ak)=false:=dF (by omega);simp -dsimp -implicitDefEqProofs only[go_sem,hlt];rw[dS];refine ⟨_,⟨by rw[hI],rfl⟩,aO ?_ ?_⟩
  . simp -dsimp -implicitDefEqProofs only[go_sem]
  simp -dsimp -implicitDefEqProofs only[go_sem];simp[ao,aq,ck]
def Hf:Option lI->AV
 |none=>.val (.slice none 0 0)
 |some k=>aQ [k]
def dC (ls:List lL)(ab:lL)(st:List (Option lI))(k:lI):List (Option lI) × Bool:=
 (if DY ab k=true then st else if 0<(bD ls k ls.length).length/\st.getD (bD ls k ls.length).length none=none then st.set (bD ls k ls.length).length (some k) else st,true)
def Dt (n:Nat)(_:Nat)(st:List (Option lI)):Prop:=st.length=n
theorem Cm (n:Nat):∀a b s,a<=b->Dt n a s->Dt n b s:=λ_ _ _ _ h=>h
theorem Cn (n:Nat)(ls:List lL)(ab:lL):∀b s k,Dt n b s->Dt n (b+1) (dC ls ab s k).1:=by
 intro b s k h;unfold dC Dt at*;simp only;split
 . exact h
 split
 . rw[List.length_set];exact h
 exact h
theorem Xs (m:aJ)(ab:lL)(ls:List lL)(n1:Nat)(hV:Gv m ab ls n1)(c:lI)(af:Nat)(ys:lA)(st:List (Option lI))(hc:(c.length:Int)=m.ae)(hc6:c.length<=6)(hy:ys.take c.length=c.map eI)(hs:∃b:Nat,Dt n1 b st/\b+1<=1000000):
 fN pG 223 [(1700000010,.row af ⟨1,false⟩ true ys),(1600000004,.box 0 [aQ ab]),(1600000005,.box 0 [.cn 172 [.ptr 1500000009 0 0 0,.ptr 1500000005 0 0 0]]),(1600000006,.box 0 [qi ls]),(1500000009,.box 0 [.ref 1500000028 0 0 n1]),(1500000005,.box 0 [eI 1]),(1500000028,.row 0 ⟨1,false⟩ false (ba Hf st))] [.ref 1700000010 af 0 c.length,.ptr 1600000004 0 0 0,.ptr 1600000005 0 0 0,.ptr 1600000006 0 0 0]
  (λr m'=>r=eB (dC ls ab st c).2/\m'=[(1700000010,.row af ⟨1,false⟩ true ys),(1600000004,.box 0 [aQ ab]),(1600000005,.box 0 [.cn 172 [.ptr 1500000009 0 0 0,.ptr 1500000005 0 0 0]]),(1600000006,.box 0 [qi ls]),(1500000009,.box 0 [.ref 1500000028 0 0 n1]),(1500000005,.box 0 [eI 1]),(1500000028,.row 0 ⟨1,false⟩ false (ba Hf ((dC ls ab st c).1)))]):=by
 refine fN.cT 17 [.tmp 5] func223 (hv:=?_);have DR:=y9 ab c hV.cl hV.cx;have hdo:=mf ls c hV.ll (λl hl=>⟨by have:=(hV.lk l hl).1;omega,by have:=(hV.lk l hl).1;omega,(hV.lk l hl).2⟩);have hdl:=gE ls c ls.length;have hn1:=hV.n1;obtain ⟨b,hst,hb⟩:=hs;have hst:st.length=n1:=hst;have hyl:c.length<=ys.length:=by have:=congrArg List.length hy;simp at this;omega
 simp -dsimp -implicitDefEqProofs only[go_sem];refine aj.lB 9 mixed rfl ?_;simp -dsimp -implicitDefEqProofs only[fu,da,uq5,uq6];rcases hin:DY ab c with _|_
 . rw [hin] at DR;have hr:dC ls ab st c=(if 0<(bD ls c ls.length).length/\st.getD (bD ls c ls.length).length none=none then st.set (bD ls c ls.length).length (some c) else st,true):=(by rw [dC,hin,if_neg (by simp)]);rw [hr];generalize bD ls c ls.length=D at*;have hDl:D.length<st.length:=(by omega);have gD:st[D.length]? =some (st.getD D.length none):=(by rw [uq7,uq8 hDl];rfl);generalize st.getD D.length none=z at*;simp -dsimp -implicitDefEqProofs only [go_sem,hy,uq6];refine ⟨hyl,?_⟩;(refine an (DR) ?_;try simp -dsimp -implicitDefEqProofs only [go_sem, *]);(refine an (hdo) ?_;try simp -dsimp -implicitDefEqProofs only [go_sem, *]);refine ⟨by exact rfl,?_⟩;refine bJ 430000 32 [.tmp 6] func172 rfl rfl rfl rfl rfl (by exact oT rfl) ?_;rcases D with _|⟨d0,D⟩
   . have e0:decide ((0:Int)>0)=false:=rfl;simp -dsimp -implicitDefEqProofs only [go_sem];refine aj.draw mixed rfl ?_;simp -dsimp -implicitDefEqProofs only [go_sem,e0];refine ⟨by exact rfl,_,rfl,aO ?_ ?_⟩
     . simp -dsimp -implicitDefEqProofs only[go_sem];simp
     simp -dsimp -implicitDefEqProofs only[go_sem];simp[ao,aq,ck]
   rw[dL] at gD hDl hdl;have e1:decide (((D.length+1:Nat):Int)>0)=true:=dT (by omega);rcases z with _|k0
   . have e2:decide ((0:Int)<1)=true:=rfl;simp -dsimp -implicitDefEqProofs only [go_sem];refine aj.draw mixed rfl ?_;simp -dsimp -implicitDefEqProofs only [go_sem,e1,gD,Hf,e2];refine ⟨⟨by omega,by omega⟩,by exact rfl,?_⟩;refine aj.lB 11 mixed rfl ?_;simp -dsimp -implicitDefEqProofs only [fu,da,uq5,uq6];have hcl:=yD c (by omega);simp -dsimp -implicitDefEqProofs only [go_sem,gD,Hf,hy,uq6];refine ⟨⟨by omega,by omega⟩,hyl,?_⟩;(refine an (hcl) ?_;try simp -dsimp -implicitDefEqProofs only [go_sem, *]);have ez:(0<D.length+1/\(none:Option lI)=none):=⟨by omega,rfl⟩;refine .inr ⟨⟨by omega,by omega⟩,by exact rfl,.inr ⟨by omega,_,rfl,aO ?_ ?_⟩⟩
     . simp -dsimp -implicitDefEqProofs only[go_sem,ez,List.map_set,Hf];rfl
     simp -dsimp -implicitDefEqProofs only[go_sem];simp[ao,aq,ck]
   have e2:decide (((1:Nat):Int)<1)=false:=rfl;simp -dsimp -implicitDefEqProofs only[go_sem];refine aj.draw mixed rfl ?_;simp -dsimp -implicitDefEqProofs only[go_sem,e1,gD,Hf,e2];refine ⟨⟨by omega,by omega⟩,by exact rfl,?_⟩;have ez:¬(0<D.length+1/\(some k0:Option lI)=none):=λh=>by cases h.2
   refine ⟨_,rfl,aO ?_ ?_⟩
   . simp -dsimp -implicitDefEqProofs only[go_sem,ez]
   simp -dsimp -implicitDefEqProofs only[go_sem];simp[ao,aq,ck]
 rw[hin] at DR;have hr:dC ls ab st c=(st,true):=by rw[dC,hin,if_pos rfl]
 rw[hr];simp -dsimp -implicitDefEqProofs only[go_sem,hy,uq6];refine ⟨hyl,?_⟩;(refine an (DR) ?_;try simp -dsimp -implicitDefEqProofs only[go_sem, *]);refine ⟨by exact rfl,_,rfl,aO ?_ ?_⟩
 . simp -dsimp -implicitDefEqProofs only[go_sem]
 simp -dsimp -implicitDefEqProofs only[go_sem];simp[ao,aq,ck]
theorem Xt (m:aJ)(hm:aU m=true)(ab:lL)(ls:List lL)(n1:Nat)(hV:Gv m ab ls n1):∀(n:Nat) (c:lI) (t:KS (List (Option lI))),(c.length:Int)+n=m.ae->(∀x∈c,0<=x/\x<=7)->DW c t->(∃b:Nat,Dt n1 b t.s/\b+8^n<=1000000)→
 fN pG 262 [(1700000008,.box 0 [.ref 1700000010 t.af 0 c.length]),(1700000010,.row t.af ⟨1,false⟩ true (t.zs.map eI)),(1700000004,.box 0 [eI m.ae,eI m.ak,eI m.step,eI m.same,eI m.least]),(1700000007,.box 0 [.cn 223 [.ptr 1600000004 0 0 0,.ptr 1600000005 0 0 0,.ptr 1600000006 0 0 0]]),(1700000005,.box 0 [.val (.slice none 0 0)]),(1700000006,.box 0 [.val .nilFunc]),(1700000009,.box 0 [.cn 262 [.ptr 1700000008 0 0 0,.ptr 1700000004 0 0 0,.ptr 1700000007 0 0 0,.ptr 1700000005 0 0 0,.ptr 1700000006 0 0 0,.ptr 1700000009 0 0 0]]),(1600000004,.box 0 [aQ ab]),(1600000005,.box 0 [.cn 172 [.ptr 1500000009 0 0 0,.ptr 1500000005 0 0 0]]),(1600000006,.box 0 [qi ls]),(1500000009,.box 0 [.ref 1500000028 0 0 n1]),(1500000005,.box 0 [eI 1]),(1500000028,.row 0 ⟨1,false⟩ false (ba Hf t.s))] [eB false,.ptr 1700000008 0 0 0,.ptr 1700000004 0 0 0,.ptr 1700000007 0 0 0,.ptr 1700000005 0 0 0,.ptr 1700000006 0 0 0,.ptr 1700000009 0 0 0]
  (λr m'=>r=eB (bn m (dC ls ab) n c t).2/\m'=[(1700000008,.box 0 [.ref 1700000010 (bn m (dC ls ab) n c t).1.af 0 c.length]),(1700000010,.row (bn m (dC ls ab) n c t).1.af ⟨1,false⟩ true ((bn m (dC ls ab) n c t).1.zs.map eI)),(1700000004,.box 0 [eI m.ae,eI m.ak,eI m.step,eI m.same,eI m.least]),(1700000007,.box 0 [.cn 223 [.ptr 1600000004 0 0 0,.ptr 1600000005 0 0 0,.ptr 1600000006 0 0 0]]),(1700000005,.box 0 [.val (.slice none 0 0)]),(1700000006,.box 0 [.val .nilFunc]),(1700000009,.box 0 [.cn 262 [.ptr 1700000008 0 0 0,.ptr 1700000004 0 0 0,.ptr 1700000007 0 0 0,.ptr 1700000005 0 0 0,.ptr 1700000006 0 0 0,.ptr 1700000009 0 0 0]]),(1600000004,.box 0 [aQ ab]),(1600000005,.box 0 [.cn 172 [.ptr 1500000009 0 0 0,.ptr 1500000005 0 0 0]]),(1600000006,.box 0 [qi ls]),(1500000009,.box 0 [.ref 1500000028 0 0 n1]),(1500000005,.box 0 [eI 1]),(1500000028,.row 0 ⟨1,false⟩ false (ba Hf ((bn m (dC ls ab) n c t).1.s)))]):=by
 intro n;have ⟨⟨zy,zz⟩,hd1,hd2⟩:=aI hm;induction n with
 |zero=>
  intro c t hl hc hz hs;have hk:((c.length:Int)==m.ae)=true:=beq_iff_eq.2 (by omega);have ht:di c.length (ba eI t.zs)=ba eI c:=by rw[←List.map_take,hz.1]
  have hzl:c.length<=(ba eI t.zs).length:=by simpa using hz.2
  refine fN.cT 91 [.tmp 8] func262 (hv:=?_);simp -dsimp -implicitDefEqProofs only[go_sem,hk];refine aj.lB 8 mixed rfl ?_;simp -dsimp -implicitDefEqProofs only[fu,da,uq5,uq6];have tf:=iE c (by omega);rcases hq:decide ((bg c c.length:Int)<m.least) with _|_
  . have hq':=of_decide_eq_false hq;have e6:bn m (dC ls ab) 0 c t=(⟨t.af,t.zs,((dC ls ab) t.s c).1⟩,((dC ls ab) t.s c).2):=(by rw [bn,if_neg hq']);rw [e6];simp -dsimp -implicitDefEqProofs only [go_sem,ht,uq6];refine ⟨hz.2,?_⟩;(refine an (tf) ?_;try simp -dsimp -implicitDefEqProofs only [go_sem, *]);refine ⟨by exact rfl,hz.2,?_⟩;refine cU (Xs m ab ls n1 hV c t.af (t.zs.map eI) t.s (by omega) (by omega) ht (by simpa using hs)) ⟨⟨?_,?_⟩,?_,?_⟩ ?_
    . simp -dsimp -implicitDefEqProofs only[go_sem]
    . simp -dsimp -implicitDefEqProofs only[go_sem];simp[ao,aq,ck]
    . simp -dsimp -implicitDefEqProofs only[go_sem]
    . simp -dsimp -implicitDefEqProofs only[go_sem];simp
    rintro r m' ⟨hr,hm'⟩;rw[hr,hm'];simp -dsimp -implicitDefEqProofs only[go_sem];refine ⟨_,rfl,aO ?_ ?_⟩
    . simp -dsimp -implicitDefEqProofs only[go_sem]
    simp -dsimp -implicitDefEqProofs only[go_sem];simp[ao,aq,ck]
  have hq':=oT hq;have e6:bn m (dC ls ab) 0 c t=(t,true):=by rw[bn,if_pos hq']
  rw[e6];simp -dsimp -implicitDefEqProofs only[go_sem,ht,uq6];refine ⟨hz.2,?_⟩;(refine an (tf) ?_;try simp -dsimp -implicitDefEqProofs only[go_sem, *]);refine ⟨by exact rfl,_,rfl,aO ?_ ?_⟩
  . simp -dsimp -implicitDefEqProofs only[go_sem]
  simp -dsimp -implicitDefEqProofs only[go_sem];simp[ao,aq,ck]
 |succ n ih=>
  intro c t hl hc hz hs;have hk:((c.length:Int)==m.ae)=false:=beq_eq_false_iff_ne.2 (by omega);refine fN.cT 91 [.tmp 8] func262 (hv:=?_);simp -dsimp -implicitDefEqProofs only[go_sem,hk];refine aj.up [0,1,2,5,6,9,10] [47,61,69,70,72,84] [1700000008,1700000010,1500000028] m.ak.toNat (λi=>(eO (aT m (dC ls ab) n c) t i).2=true) (λi=>[(11,eI i)]) (λi=>[(1700000008,.box 0 [.ref 1700000010 (eO (aT m (dC ls ab) n c) t i).1.af 0 c.length]),(1700000010,.row (eO (aT m (dC ls ab) n c) t i).1.af ⟨1,false⟩ true ((eO (aT m (dC ls ab) n c) t i).1.zs.map eI)),(1500000028,.row 0 ⟨1,false⟩ false (ba Hf ((eO (aT m (dC ls ab) n c) t i).1.s)))]) rfl ?_ rfl (λi hi hI=>?_) (λhI=>?_)
  . simp -dsimp -implicitDefEqProofs only[go_sem];simp[eO]
  . have hu:DW c (eO (aT m (dC ls ab) n c) t i).1:=p8 hz i;have kx:∃b:Nat,Dt n1 b (eO (aT m (dC ls ab) n c) t i).1.s/\b+8^n<=1000000:=by
     obtain ⟨b0,hJ0,hb0⟩:=hs;refine ⟨b0+i*8^n,Gt (Cm n1) (λc' t' b'=>za hm (Cm n1) (Cn n1 ls ab) n c' t' b') t b0 hJ0 i,?_⟩;have h8:(i+1)*8^n<=8*8^n:=Nat.mul_le_mul_right _ (by omega);have h9:(i+1)*8^n=i*8^n+8^n:=Nat.succ_mul i (8^n);have h10:8^(n+1)=8*8^n:=(by rw[Nat.pow_succ,Nat.mul_comm]);omega
    have hlt:decide ((i:Int)<m.ak)=true:=dT (by omega);have hS:=iW hI;have cy:(aT m (dC ls ab) n c i (eO (aT m (dC ls ab) n c) t i).1).2=false->bn m (dC ls ab) (n+1) c t=aT m (dC ls ab) n c i (eO (aT m (dC ls ab) n c) t i).1:=λh=>by rw[←hS] at h ⊢;rw[dS,pj h m.ak.toNat (by omega)]
    rw[hS];clear hS hI;generalize (eO (aT m (dC ls ab) n c) t i).1=u at*;obtain ⟨hu1,hu2⟩:=hu;have htk:di c.length (ba eI u.zs)=ba eI c:=(by rw[←List.map_take,hu1]);have hcl:c.length<=6:=(by omega)
    have hih:=ih (c++[(i:Int)]) ⟨u.af+1,c++[(i:Int)],u.s⟩ (by simp;omega) (λx hx=>by
     rcases List.mem_append.1 hx with h|h
     . exact hc x h
     simp at h;omega) ⟨e8,j_ _⟩ kx
    simp only [bk,dL,cM,Nat.zero_add] at hih;have cH:=kE (c++[(i:Int)]) (by simp) (by simp;omega);simp only [bk,dL,cM,Nat.zero_add,Nat.add_sub_cancel] at cH;have oB:ba eI c++[eI (i:Int)]=ba eI (c++[(i:Int)]):=(by simp);have l8:bK m c i=(c.isEmpty|| !decide (fm ((i:Int)-c.getD (c.length-1) 0)>m.step)):=by
     unfold bK;congr 1;by_cases h:fm ((i:Int)-c.getD (c.length-1) 0)<=m.step
     . rw[decide_eq_true h,decide_eq_false (by omega)];rfl
     rw[decide_eq_false h,decide_eq_true (by omega)];rfl
    have dM:gb m c i= !decide ((aZ (c++[(i:Int)]) c.length:Int)>m.same):=by
     unfold gb;by_cases h:(aZ (c++[(i:Int)]) c.length:Int)<=m.same
     . rw[decide_eq_true h,decide_eq_false (by omega)];rfl
     rw[decide_eq_false h,decide_eq_true (by omega)];rfl
    simp -dsimp -implicitDefEqProofs only[go_sem,hlt];refine aj.draw mixed rfl ?_;have hfn:rR pG 216 .neq=some false:=rfl;rcases hk0:decide ((c.length:Int)>0) with _|_
    . have hce:c=[]:=by
       have:=of_decide_eq_false hk0;exact List.eq_nil_of_length_eq_zero (by omega)
      have hsT:bK m c i=true:=(by rw[hce];rfl);clear hce;simp -dsimp -implicitDefEqProofs only[go_sem,hfn,hk0];refine ⟨by exact rfl,hu2,by omega,?_⟩;refine aj.lB 13 mixed rfl ?_;simp -dsimp -implicitDefEqProofs only[fu,da,uq5,uq6];have htl:di (c.length+1) (ba eI (c++[(i:Int)]))=ba eI (c++[(i:Int)]):=cm (by simp);rcases hq2:decide ((aZ (c++[(i:Int)]) c.length:Int)>m.same) with _|_
      . have hcB:aT m (dC ls ab) n c i u=bn m (dC ls ab) n (c++[(i:Int)]) ⟨u.af+1,c++[(i:Int)],u.s⟩:=(by rw [aT,if_pos hsT,if_pos (by rw [dM,hq2];rfl),hu1]);rw [hcB] at cy ⊢;clear hcB;generalize bn m (dC ls ab) n (c++[(i:Int)]) ⟨u.af+1,c++[(i:Int)],u.s⟩=w at*;obtain ⟨w,b⟩:=w;simp -dsimp -implicitDefEqProofs only [go_sem,htk,oB,htl];(refine an (cH) ?_;try simp -dsimp -implicitDefEqProofs only [go_sem, *]);refine ⟨by exact rfl,?_⟩;refine cU hih ⟨⟨?_,?_⟩,?_,?_⟩ ?_
        . simp -dsimp -implicitDefEqProofs only[go_sem]
        . simp -dsimp -implicitDefEqProofs only[go_sem];simp[ao,aq,ck]
        . simp -dsimp -implicitDefEqProofs only[go_sem]
        . simp -dsimp -implicitDefEqProofs only[go_sem];simp
        rintro r m' ⟨hr,hm'⟩;rw[hr,hm'];clear hr hm';cases b with
        |false=>
         rw[cy rfl];simp -dsimp -implicitDefEqProofs only[go_sem];refine ⟨by omega,_,rfl,aO ?_ ?_⟩
         . simp -dsimp -implicitDefEqProofs only[go_sem]
         simp -dsimp -implicitDefEqProofs only[go_sem];simp[ao,aq,ck]
        |true=>
         simp -dsimp -implicitDefEqProofs only[go_sem];exact ⟨by omega,⟨by omega,by omega⟩,by simp⟩
      have hcB:aT m (dC ls ab) n c i u=(⟨u.af+1,c++[(i:Int)],u.s⟩,true):=(by rw[aT,if_pos hsT,if_neg (by rw[dM,hq2];exact λh=>by cases h),hu1]);rw[hcB];clear hcB cy;simp -dsimp -implicitDefEqProofs only[go_sem,htk,oB,htl];(refine an (cH) ?_;try simp -dsimp -implicitDefEqProofs only[go_sem, *]);exact ⟨by exact rfl,by omega,⟨by omega,by omega⟩,by simp⟩
    have hkp:=oT hk0;have hla:c.getD (c.length-1) 0=c[c.length-1]:=(by simp[uq7,show c.length-1<c.length by omega]);have kc:(ba eI u.zs)[c.length-1]? =some (eI (c.getD (c.length-1) 0)):=by have h1:(di c.length (ba eI u.zs))[c.length-1]? =(ba eI u.zs)[c.length-1]? :=(by rw[List.getElem?_take];simp;omega);rw[←h1,htk,hla];simp[show c.length-1<c.length by omega]
    have hlb:=hc _ (uq9 (show c.length-1<c.length by omega));rw[←hla] at hlb;generalize c.getD (c.length-1) 0=z at*;clear hla;have e1:((c.length:Int)-1).toNat=c.length-1:=(by omega);have ql:=jr ((i:Int)-z) (by omega);rcases hq:decide (fm ((i:Int)-z)>m.step) with _|_
    . have hsT:bK m c i=true:=(by rw [l8,hq];simp);simp -dsimp -implicitDefEqProofs only [go_sem,hfn,hk0,e1,kc];refine ⟨⟨by omega,by omega⟩,⟨by omega,by omega⟩,⟨by omega,by omega⟩,?_⟩;(refine an (ql) ?_;try simp -dsimp -implicitDefEqProofs only [go_sem, *]);refine ⟨by exact rfl,by omega,?_⟩;refine aj.lB 13 mixed rfl ?_;simp -dsimp -implicitDefEqProofs only [fu,da,uq5,uq6];have htl:di (c.length+1) (ba eI (c++[(i:Int)]))=ba eI (c++[(i:Int)]):=cm (by simp);rcases hq2:decide ((aZ (c++[(i:Int)]) c.length:Int)>m.same) with _|_
      . have hcB:aT m (dC ls ab) n c i u=bn m (dC ls ab) n (c++[(i:Int)]) ⟨u.af+1,c++[(i:Int)],u.s⟩:=(by rw [aT,if_pos hsT,if_pos (by rw [dM,hq2];rfl),hu1]);rw [hcB] at cy ⊢;clear hcB;generalize bn m (dC ls ab) n (c++[(i:Int)]) ⟨u.af+1,c++[(i:Int)],u.s⟩=w at*;obtain ⟨w,b⟩:=w;simp -dsimp -implicitDefEqProofs only [go_sem,htl];(refine an (cH) ?_;try simp -dsimp -implicitDefEqProofs only [go_sem, *]);refine ⟨by exact rfl,?_⟩;refine cU hih ⟨⟨?_,?_⟩,?_,?_⟩ ?_
        . simp -dsimp -implicitDefEqProofs only[go_sem]
        . simp -dsimp -implicitDefEqProofs only[go_sem];simp[ao,aq,ck]
        . simp -dsimp -implicitDefEqProofs only[go_sem]
        . simp -dsimp -implicitDefEqProofs only[go_sem];simp
        rintro r m' ⟨hr,hm'⟩;rw[hr,hm'];clear hr hm';cases b with
        |false=>
         rw[cy rfl];simp -dsimp -implicitDefEqProofs only[go_sem];refine ⟨by omega,_,rfl,aO ?_ ?_⟩
         . simp -dsimp -implicitDefEqProofs only[go_sem]
         simp -dsimp -implicitDefEqProofs only[go_sem];simp[ao,aq,ck]
        |true=>
         simp -dsimp -implicitDefEqProofs only[go_sem];exact ⟨by omega,⟨by omega,by omega⟩,by simp⟩
      have hcB:aT m (dC ls ab) n c i u=(⟨u.af+1,c++[(i:Int)],u.s⟩,true):=(by rw[aT,if_pos hsT,if_neg (by rw[dM,hq2];exact λh=>by cases h),hu1]);rw[hcB];clear hcB cy;simp -dsimp -implicitDefEqProofs only[go_sem,htl];(refine an (cH) ?_;try simp -dsimp -implicitDefEqProofs only[go_sem, *]);exact ⟨by exact rfl,by omega,⟨by omega,by omega⟩,by simp⟩
    have hsF:bK m c i=false:=by
     rw[l8,hq];cases c with
     |nil=>simp at hkp
     |cons=>rfl
    have hcB:aT m (dC ls ab) n c i u=(u,true):=(by rw[aT,if_neg (by rw[hsF];exact λh=>by cases h)]);rw[hcB];clear hcB cy;simp -dsimp -implicitDefEqProofs only[go_sem,hfn,hk0,e1,kc];refine ⟨⟨by omega,by omega⟩,⟨by omega,by omega⟩,⟨by omega,by omega⟩,?_⟩;(refine an (ql) ?_;try simp -dsimp -implicitDefEqProofs only[go_sem, *]);exact ⟨by exact rfl,⟨by omega,by omega⟩,by simp⟩
  simp -dsimp -implicitDefEqProofs only[pz,Nat.reduceBEq,Nat.reduceDiv,Nat.reduceAdd,↓reduceIte,Nat.reduceEqDiff];have hlt:decide (((m.ak.toNat:Nat):Int)<m.ak)=false:=dF (by omega);simp -dsimp -implicitDefEqProofs only[go_sem,hlt];rw[dS];refine ⟨_,⟨by rw[hI],rfl⟩,aO ?_ ?_⟩
  . simp -dsimp -implicitDefEqProofs only[go_sem]
  simp -dsimp -implicitDefEqProofs only[go_sem];simp[ao,aq,ck]
def dn (ls:List lL)(k:lI):Nat:=(bD ls k ls.length).length
def Gw (ls:List lL)(ab ks:lL)(d:Nat):Option lI:=ks.find? λk=> !DY ab k&&decide (dn ls k=d)
def Ny (ls:List lL)(ab ks:lL):Nat->lL
 |0=>[]
 |d+1=>match Gw ls ab ks (d+1) with
  |some k=>[k]
  |none=>Ny ls ab ks d
theorem Kr (ls:List lL)(ab ks:lL):∀d,∀k∈Ny ls ab ks d,k∈ks
 |0,k,h=>by cases h
 |d+1,k,h=>by
  unfold Ny at h;split at h
  . rename_i k' e;rw[List.mem_singleton] at h;subst h;exact List.mem_of_find?_eq_some e
  exact Kr ls ab ks d k h
theorem Co (ls:List lL)(ab:lL)(n1:Nat)(hn:ls.length<n1):∀(ks:lL) (st:List (Option lI)),st.length=n1→
 (bC (dC ls ab) st ks).2=true/\(bC (dC ls ab) st ks).1.length=n1/\(bC (dC ls ab) st ks).1.getD 0 none=st.getD 0 none∧
   ∀d,0<d->d<n1->(bC (dC ls ab) st ks).1.getD d none=(st.getD d none).or (Gw ls ab ks d)
 | [],st,h=>⟨rfl,h,rfl,λd _ _=>by simp[bC,Gw]⟩
 |k::ks,st,h=>by
  have ht:(dC ls ab st k).2=true:=rfl;have hl:(dC ls ab st k).1.length=n1:=Cn n1 ls ab 0 st k h;obtain ⟨i1,i2,i3,i4⟩:=Co ls ab n1 hn ks (dC ls ab st k).1 hl;rw[bC,if_pos ht];have hdl:(bD ls k ls.length).length<=ls.length:=gE ls k ls.length;refine ⟨i1,i2,?_,λd hd hdn=>?_⟩
  . rw [i3];unfold dC;simp only;split
    . rfl
    split
    . rename_i h0;rw[uq7,List.getElem?_set_ne (by omega),←uq7]
    rfl
  rw[i4 d hd hdn];unfold Gw;rw[List.find?_cons];unfold dC;simp only;cases hin:DY ab k with
  |true=>simp
  |false=>
   rw[if_neg (by simp)];simp only[Bool.not_false,uq3];by_cases e:dn ls k=d
   . rw [decide_eq_true e];simp only;have e':(bD ls k ls.length).length=d:=e;rw [e'];by_cases hz:st.getD d none=none
     . rw[if_pos ⟨hd,hz⟩,hz,uq7,List.getElem?_set_self (by omega)];rfl
     rw[if_neg (λhh=>hz hh.2)];cases hs:st.getD d none with
     |none=>exact absurd hs hz
     |some x=>rfl
   rw[decide_eq_false e];simp only;split
   . rw[uq7,List.getElem?_set_ne (by exact e),←uq7]
   rfl
def oF (st:List (Option lI))(n:Nat)(l:lN):Option lI:=l.foldl (λo x=>o.or (st.getD (n-1-x) none)) none
theorem Du (st:List (Option lI))(n:Nat)(l:lN)(x:Nat):oF st n (l++[x])=(oF st n l).or (st.getD (n-1-x) none):=by simp[oF]
theorem Gx (ls:List lL)(ab ks:lL)(st:List (Option lI))(n:Nat)(h:∀d,0<d->d<n+1->st.getD d none=Gw ls ab ks d):
 ∀k,k<=n->Ny ls ab ks n=match oF st (n+1) (c_ k) with|some x=>[x]|none=>Ny ls ab ks (n-k)
 |0,_=>rfl
 |k+1,hk=>by
  have ih:=Gx ls ab ks st n h k (by omega);rw[ih,List.range_succ,Du];cases ho:oF st (n+1) (c_ k) with
  |some x=>rfl
  |none=>
   simp only[Option.none_or];rw[h (n+1-1-k) (by omega) (by omega)];obtain ⟨d,hd⟩:∃d,n-k=d+1:=⟨n-k-1,by omega⟩;rw[hd,show n+1-1-k=d+1 by omega,show n-(k+1)=d by omega,Ny]
theorem VR (ls:List lL)(ab ks:lL)(st:List (Option lI))(n:Nat)(h0:st.getD 0 none=none)(h:∀d,0<d->d<n+1->st.getD d none=Gw ls ab ks d):
 (oF st (n+1) (c_ (n+1))).toList=Ny ls ab ks n:=by
 rw[Gx ls ab ks st n h n (j_ _),List.range_succ,Du,show n+1-1-n=0 by omega,h0,show n-n=0 by omega];cases oF st (n+1) (c_ n)<;>rfl
def qj (ls:List lL)(gs:lL)(d:Nat):Option lI:=gs.find? λk=>decide (dn ls k=d)
theorem Gy (ls:List lL)(ab ks:lL)(d:Nat)(hd:0<d):qj ls (ks.filter (Ko ls ab)) d=Gw ls ab ks d:=by
 unfold qj Gw;rw[List.find?_filter];congr 1;funext k;unfold Ko;rw[ur ls k ls.length (j_ _)];by_cases e:dn ls k=d
 . have:0<(bD ls k ls.length).length:=(by unfold dn at e;omega);rw[decide_eq_true this,decide_eq_true e,uq3];simp
 rw[decide_eq_false e];simp
theorem M3 (ls:List lL)(gs:lL)(d i:Nat)(h:i<gs.length)(hn:qj ls (gs.take i) d=none):qj ls (gs.take (i+1)) d=if dn ls gs[i]=d then some gs[i] else none:=by
 unfold qj at*;rw[eZ h,List.find?_append,hn,Option.none_or,List.find?_cons];by_cases e:dn ls gs[i]=d
 . rw[decide_eq_true e,if_pos e]
 rw[decide_eq_false e,if_neg e];rfl
theorem M4 (ls:List lL)(gs:lL)(d i:Nat)(k:lI)(h:qj ls (gs.take i) d=some k):qj ls gs d=some k:=by
 unfold qj at*;conv=>lhs;rw[←List.take_append_drop i gs,List.find?_append,h]
 rfl
def M5 (ls:List lL)(gs:lL)(n:Nat):Nat->Option lI
 |0=>none
 |i+1=>(M5 ls gs n i).or (qj ls gs (n-i))
theorem Ks (ls:List lL)(ab ks:lL)(n:Nat):∀i,i<=n->Ny ls ab ks n=match M5 ls (ks.filter (Ko ls ab)) n i with|some k=>[k]|none=>Ny ls ab ks (n-i)
 |0,_=>rfl
 |i+1,h=>by
  rw[Ks ls ab ks n i (by omega),M5];cases M5 ls (ks.filter (Ko ls ab)) n i with
  |some k=>rfl
  |none=>
   obtain ⟨d,hd⟩:∃d,n-i=d+1:=⟨n-i-1,by omega⟩;rw[Option.none_or,Gy ls ab ks (n-i) (by omega),hd,show n-(i+1)=d by omega];simp only[Ny]
theorem Tl (ls:List lL)(ab ks:lL)(n:Nat):(M5 ls (ks.filter (Ko ls ab)) n n).toList=Ny ls ab ks n:=by rw[Ks ls ab ks n n (j_ _),Nat.sub_self];cases M5 ls (ks.filter (Ko ls ab)) n n<;>rfl
theorem Uk {m:aJ}{t ab:lL}(hF:M0 m t ab):Gv m ab (ay m t ab (t.getD 0 []).length) ((t.getD 0 []).length+1):=by
 have hll:(ay m t ab (t.getD 0 []).length).length=(t.getD 0 []).length:=by rw[ay,dE,a_]
 have hwd:=hF.wd;have tg:=hF.num;refine ⟨by have:=hF.tl;have:=hF.le;omega,λx hx=>by have:=(hF.cut x hx).1;omega,by omega,λl hl=>?_,by omega⟩;obtain ⟨k,_,rfl⟩:=l4 hl;obtain ⟨h1,h2⟩:=ui hF k;exact ⟨h1,λx hx=>by have:=h2 x hx;omega⟩
def Cp (m:aJ)(t ab:lL):lI:=(bC (bR (ay m t ab (t.getD 0 []).length) ab) (bw ((t.getD 0 []).length+1) 0) (bx m)).1
theorem Gz (m:aJ)(t ab:lL)(hF:M0 m t ab):Fn pG 233 [jR m t,aQ ab] true (· =aM (Cp m t ab)):=by
 refine Fn.au 18 [.tmp 4] func233 (hv:=?_);have hV:=Uk hF;have hm:=hF.oE;have tg:=hF.num;have hwd:=hF.wd;have hp:=gB m t ab hF.oE hF.tl hF.le hF.t0 hF.row hF.wd hF.cut;have ht0:=hF.t0;have g0:=get_some ht0;have eg:t[0]=t.getD 0 []:=by rw[uq7,g0];rfl
 rw[eg] at g0;have h0:qI ((t.getD 0 []).length+1) 0 (bw ((t.getD 0 []).length+1) (0:Int)):=⟨by simp,λx hx=>by have:=List.eq_of_mem_replicate hx;omega⟩;have h8:(8:Nat)^m.ae.toNat<=8^6:=Nat.pow_le_pow_right (by decide) (by omega);have e6:=Xr m hm ab _ _ hV m.ae.toNat [] ⟨0,[],bw ((t.getD 0 []).length+1) 0⟩ (by simp;omega) (λx hx=>by cases hx) ⟨rfl,j_ _⟩ ⟨0,h0,by omega⟩;have hsp:=(iG m (bR (ay m t ab (t.getD 0 []).length) ab) m.ae.toNat [] ⟨0,[],bw ((t.getD 0 []).length+1) 0⟩ ⟨rfl,j_ _⟩).2.1;unfold Cp;rw[show a6 m m.ae.toNat []=bx m from rfl] at hsp;have hll:(ay m t ab (t.getD 0 []).length).length=(t.getD 0 []).length:=by rw[ay,dE,a_]
 have hwl:=(rG (ay m t ab (t.getD 0 []).length) ab (bx m) (bw ((t.getD 0 []).length+1) 0) (by rw[hll,List.length_replicate])).2.1;rw[←hsp] at hwl ⊢;rw[hll] at hwl;clear hsp h0 h8 hV hll;generalize bn m (bR (ay m t ab (t.getD 0 []).length) ab) m.ae.toNat [] ⟨0,[],bw ((t.getD 0 []).length+1) 0⟩=w at*;generalize ay m t ab (t.getD 0 []).length=ls at*;generalize t.getD 0 []=r0 at*;simp only[cM,b7] at e6;have eN:((r0.length:Int)+1).toNat=r0.length+1:=by omega
 simp -dsimp -implicitDefEqProofs only[go_sem,g0,eN];((with_reducible and_intros);all_goals try first|omega|(refine ⟨?_,?_⟩<;>omega));refine bJ 300000 14 [] func171 rfl rfl rfl rfl rfl (by exact oT rfl) ?_;simp -dsimp -implicitDefEqProofs only[go_sem];refine av hp (by simp[ax,ao,aq,aF]) ?_;simp -dsimp -implicitDefEqProofs only[go_sem];refine pc 1600000000 310000 16 [] func222 rfl rfl rfl rfl rfl (by exact oT rfl) ?_;simp -dsimp -implicitDefEqProofs only[go_sem];refine jl 1700000000 e6 ⟨?_,?_⟩ ⟨⟨?_,?_⟩,?_,?_⟩ ?_
 . simp -dsimp -implicitDefEqProofs only[go_sem]
 . simp -dsimp -implicitDefEqProofs only[go_sem]
 . simp -dsimp -implicitDefEqProofs only[go_sem]
 . simp -dsimp -implicitDefEqProofs only[go_sem];simp[ao,aq,ck]
 . simp -dsimp -implicitDefEqProofs only[go_sem,List.map_replicate]
 . simp -dsimp -implicitDefEqProofs only[go_sem];simp
 rintro r m' ⟨hr,hm'⟩;rw[hr,hm'];simp -dsimp -implicitDefEqProofs only[go_sem];refine ⟨⟨by omega,by simp⟩,by rw[cm (by simp;omega)]⟩
theorem VS (xs:lI)(h:xs.length<=1048576)(h0:∀x∈xs,0<=x/\x<=1000000):Fn pG 232 [aM xs] true (· =eI xs.sum):=by
 refine Fn.au 17 [.tmp 2] func232 (hv:=?_);simp -dsimp -implicitDefEqProofs only[go_sem];refine aj.up [6,7] [] [] xs.length (λi=>0<=(xs.take i).sum/\(xs.take i).sum<=1000000*i) (λi=>[(8,eI i),(3,eI (xs.take i).sum)]) (λ_=>[]) (by simp) ?_ rfl (λi hi hI=>?_) (λhI=>?_)
 . simp -dsimp -implicitDefEqProofs only[go_sem];all_goals first|rfl|skip
 . have gi:=get_some hi;have hx:=h0 _ (uq9 hi);have hs:(xs.take (i+1)).sum=(xs.take i).sum+xs[i]:=(by rw[eZ hi,List.sum_append];simp);rw[hs];generalize (xs.take i).sum=s at*;generalize xs[i]=x at*;simp -dsimp -implicitDefEqProofs only[go_sem,aE hi,gi];((with_reducible and_intros);all_goals try first|omega|(refine ⟨?_,?_⟩<;>omega)|exact rfl)
 simp -dsimp -implicitDefEqProofs only[go_sem,aA,e8]
theorem zc (m:aJ)(t ab:lL)(h:t.length<=1048576)(h2:∀x∈t,x.length<=1048576)(h3:ab.length<=1048576)(h4:∀x∈ab,x.length<=1048576):Fn pG 179 [jR m t,aQ ab] true (· = .aX [eI (if bh m t ab=true then (cj m t ab).length else 0),eI (if bh m t ab=true then 0 else 1)]):=by
 refine Fn.au 18 [.tmp 4,.tmp 5] func179 (hv:=?_);have hc:=kp m t ab h h2 h3 h4;rcases hd:bh m t ab with _|_
 . rw[hd,if_neg (by simp)] at hc;rw[if_neg (by simp),if_neg (by simp)];have e:((1:Int) != 0)=true:=rfl;simp -dsimp -implicitDefEqProofs only[go_sem];refine aa hc ?_;simp -dsimp -implicitDefEqProofs only[go_sem,e]
 rw[hd,if_pos rfl] at hc;rw[if_pos rfl,if_pos rfl];have hF:=iZ hd;have hp:=Gz m t ab hF;have hll:(ay m t ab (t.getD 0 []).length).length=(t.getD 0 []).length:=by rw[ay,dE,a_]
 obtain ⟨-,v1,v2⟩:=rG (ay m t ab (t.getD 0 []).length) ab (bx m) (bw ((t.getD 0 []).length+1) 0) (by rw[hll,List.length_replicate]);have hz:((bw ((t.getD 0 []).length+1) (0:Int)).drop 1).sum=0:=by simp
 rw[hz,Int.zero_add] at v2;have v2:((Cp m t ab).drop 1).sum=((cj m t ab).length:Int):=v2;have hJ:∃b,qI ((t.getD 0 []).length+1) b (Cp m t ab)/\b<=1000000:=by have h0:qI ((t.getD 0 []).length+1) 0 (bw ((t.getD 0 []).length+1) (0:Int)):=⟨by simp,λx hx=>by have:=List.eq_of_mem_replicate hx;omega⟩;have tg:=hF.num;have h8:(8:Nat)^m.ae.toNat<=8^6:=Nat.pow_le_pow_right (by decide) (by omega);have hsp:=(iG m (bR (ay m t ab (t.getD 0 []).length) ab) m.ae.toNat [] ⟨0,[],bw ((t.getD 0 []).length+1) 0⟩ ⟨rfl,j_ _⟩).2.1;have hj:=za hF.oE (nS ((t.getD 0 []).length+1)) (zb ((t.getD 0 []).length+1) (ay m t ab (t.getD 0 []).length) ab) m.ae.toNat [] ⟨0,[],bw ((t.getD 0 []).length+1) 0⟩ 0 h0;rw[hsp] at hj;exact ⟨_,hj,by omega⟩
 obtain ⟨b,⟨hl,hb⟩,hb6⟩:=hJ;have hwd:=hF.wd;have hs:=VS ((Cp m t ab).drop 1) (by simp;omega) (λx hx=>by have:=hb x (List.mem_of_mem_drop hx);omega);rw[v2] at hs;generalize Cp m t ab=st at*;have e:((0:Int) != 0)=false:=rfl;have eT:di (st.length-1) (List.drop 1 (ba eI st))=ba eI (List.drop 1 st):=by rw[List.map_drop,cm (by simp)]
 simp -dsimp -implicitDefEqProofs only[go_sem];refine aa hc ?_;simp -dsimp -implicitDefEqProofs only[go_sem,e];refine aa hp ?_;simp -dsimp -implicitDefEqProofs only[go_sem,eT];((with_reducible and_intros);all_goals try omega);refine aa hs ?_;simp -dsimp -implicitDefEqProofs only[go_sem]
def zd (m:aJ)(t ab:lL):lL:=if bh m t ab=true then Ny (ay m t ab (t.getD 0 []).length) ab (bx m) (t.getD 0 []).length else []
theorem Tm (b1 b2 b3 b4 b5:bf)(l:Nat):(if 1500000010=l then some b1 else if 1500000033=l then some b2 else if 1500000010=l then some b3 else if 1500000033=l then some b4 else if 1500000005=l then some b5 else none)=
 ah [(1500000010,b1),(1500000033,b2),(1500000005,b5)] l:=by
 simp only[aw,tn];by_cases h1:1500000010=l
 . rw[if_pos h1,if_pos h1]
 by_cases h2:1500000033=l
 . rw[if_neg h1,if_pos h2,if_neg h1,if_pos h2]
 rw[if_neg h1,if_neg h1,if_neg h1,if_neg h2,if_neg h2,if_neg h2]
theorem Qy (m:aJ)(t ab:lL)(h:t.length<=1048576)(h2:∀x∈t,x.length<=1048576)(h3:ab.length<=1048576)(h4:∀x∈ab,x.length<=1048576):Fn pG 123 [jR m t,aQ ab,eI 1] false (λr=>su r (.aX [aQ (zd m t ab),eI (if bh m t ab=true then 0 else 1)])):=by
 refine Fn.Yh func123 rfl rfl (oT rfl) ?_;have er:(Tryz.f123).results.toList=[.tmp 6,.tmp 7]:=rfl;have hc:=kp m t ab h h2 h3 h4;unfold zd;rcases hd:bh m t ab with _|_
 . rw[hd,if_neg (by simp)] at hc;rw[if_neg (by simp),if_neg (by simp)];have e:((1:Int) != 0)=true:=rfl;refine C'.seq (by exact rfl) ?_;simp -dsimp -implicitDefEqProofs only[go_sem];refine C'.seq (by exact rfl) ?_;simp -dsimp -implicitDefEqProofs only[go_sem];refine aa hc ?_;simp -dsimp -implicitDefEqProofs only[go_sem,er,e]
 rw[hd,if_pos rfl] at hc;rw[if_pos rfl,if_pos rfl];have e:((0:Int) != 0)=false:=rfl;have hw:=kY 1 0 300;rw[show bA 1 0 300=true from rfl] at hw;have hF:=iZ hd;have hV:=Uk hF;have hm:=hF.oE;have tg:=hF.num;have hwd:=hF.wd;have hp:=gB m t ab hF.oE hF.tl hF.le hF.t0 hF.row hF.wd hF.cut;have ht0:=hF.t0;have g0:=get_some ht0;have eg:t[0]=t.getD 0 []:=by rw[uq7,g0];rfl
 rw[eg] at g0;refine C'.seq (by exact rfl) ?_;simp -dsimp -implicitDefEqProofs only[go_sem];refine C'.seq (by exact rfl) ?_;simp -dsimp -implicitDefEqProofs only[go_sem];refine aa hc ?_;simp -dsimp -implicitDefEqProofs only[go_sem,e];refine C'.seq (by exact rfl) ?_;simp -dsimp -implicitDefEqProofs only[go_sem];refine aa hw ?_;simp -dsimp -implicitDefEqProofs only[go_sem];refine C'.seq (by exact rfl) ?_;have eN:(((t.getD 0 []).length:Int)+1).toNat=(t.getD 0 []).length+1:=by omega
 simp -dsimp -implicitDefEqProofs only[go_sem,g0,eN];((with_reducible and_intros);all_goals try first|omega|(refine ⟨?_,?_⟩<;>omega))
 have e6:=Xt m hm ab _ _ hV m.ae.toNat [] ⟨0,[],bw ((t.getD 0 []).length+1) none⟩ (by simp;omega) (λx hx=>by cases hx) ⟨rfl,j_ _⟩ (by
  have h8:(8:Nat)^m.ae.toNat<=8^6:=Nat.pow_le_pow_right (by decide) (by omega)
  exact ⟨0,by simp[Dt],by omega⟩)
 have hsp:=(iG m (dC (ay m t ab (t.getD 0 []).length) ab) m.ae.toNat [] ⟨0,[],bw ((t.getD 0 []).length+1) none⟩ ⟨rfl,j_ _⟩).2.1;rw[show a6 m m.ae.toNat []=bx m from rfl] at hsp;have hll:(ay m t ab (t.getD 0 []).length).length=(t.getD 0 []).length:=by rw[ay,dE,a_]
 obtain ⟨-,w1,w2,w3⟩:=Co (ay m t ab (t.getD 0 []).length) ab ((t.getD 0 []).length+1) (by omega) (bx m) (bw ((t.getD 0 []).length+1) none) (by simp)
 have hw:=VR (ay m t ab (t.getD 0 []).length) ab (bx m) _ (t.getD 0 []).length (w2.trans (by simp [uq7])) (λd h0 h1=>(w3 d h0 (by omega)).trans (by
  have:(bw ((t.getD 0 []).length+1) (none:Option lI)).getD d none=none:=by rw[uq7,List.getElem?_replicate];split<;>rfl
  rw[this,Option.none_or]))
 rw[←hsp] at w1 hw;rw[←hw];clear hsp hw w2 w3 hV hll;generalize bn m (dC (ay m t ab (t.getD 0 []).length) ab) m.ae.toNat [] ⟨0,[],bw ((t.getD 0 []).length+1) none⟩=w at*;generalize ay m t ab (t.getD 0 []).length=ls at*;generalize t.getD 0 []=r0 at*;simp only[cM,b7] at e6;generalize hoo:(oF w.1.s (r0.length+1) (c_ (r0.length+1))).toList=R;refine C'.CG 28 0 ⟨1,false⟩ (bw (r0.length+1) (AV.val (Value.slice none 0 0))) (by decide) rfl ?_;refine C'.seq (by exact rfl) ?_;simp -dsimp -implicitDefEqProofs only[go_sem];refine bJ 300000 14 [] func171 rfl rfl rfl rfl rfl (by exact oT rfl) ?_;simp -dsimp -implicitDefEqProofs only[go_sem];refine av hp (by simp[ax,ao,aq,aF]) ?_;simp -dsimp -implicitDefEqProofs only[go_sem];refine pc 1600000000 310000 16 [] func222 rfl rfl rfl rfl rfl (by exact oT rfl) ?_;simp -dsimp -implicitDefEqProofs only[go_sem];refine jl 1700000000 e6 ⟨?_,?_⟩ ⟨⟨?_,?_⟩,?_,?_⟩ ?_
 . simp -dsimp -implicitDefEqProofs only[go_sem]
 . simp -dsimp -implicitDefEqProofs only[go_sem]
 . simp -dsimp -implicitDefEqProofs only[go_sem]
 . simp -dsimp -implicitDefEqProofs only[go_sem];simp[ao,aq,ck]
 . simp -dsimp -implicitDefEqProofs only[go_sem,List.map_replicate,Hf]
 . simp -dsimp -implicitDefEqProofs only[go_sem];simp
 rintro r m' ⟨hr,hm'⟩;rw[hr,hm'];simp -dsimp -implicitDefEqProofs only[go_sem];refine C'.seq (by exact rfl) ?_;simp -dsimp -implicitDefEqProofs only[go_sem];refine C'.Yg (by exact rfl) ?_;simp -dsimp -implicitDefEqProofs only[go_sem];refine ⟨by omega,?_⟩;refine jn 28 0 ⟨1,false⟩ false (ba Hf w.1.s) (Je (di (r0.length+1) (List.drop 0 (ba Hf w.1.s)))) (by decide) rfl ?_ (λr hr=>?_)
 . exact kD 0 (r0.length+1) (by simp[w1]) L'
 have ez:di (r0.length+1) (List.drop 0 (ba Hf w.1.s))=ba Hf w.1.s:=by rw[uq6,cm (by simp[w1])]
 rw[ez] at hr;rw[hr];simp -dsimp -implicitDefEqProofs only[go_sem];refine Uh.keep [10,33,5] [(10,.box 0 [.ref 33 0 0 0]),(33,.row 0 ⟨1,false⟩ true []),(5,.box 0 [eI 1])] [(10,.ptr 10 0 0 0),(5,.ptr 5 0 0 0),(35,.cn 225 [.bo ⟨1,false⟩ [.arr ⟨1,false⟩ (ba Hf w.1.s)] 0 0])] (aO ?_ ?_) ?_ ?_ ?_
 . simp -dsimp -implicitDefEqProofs only[go_sem]
 . simp -dsimp -implicitDefEqProofs only[go_sem];simp
 . simp -dsimp -implicitDefEqProofs only[go_sem]
 . simp[ao,aq]
 have hr0:r0.length<=1000:=hwd;clear e6 hm' hr hc hF tg hwd hp
 refine Uh.VB (ys:=gN (w.1.s.map λo=>aQ o.toList)) 10 (λpre m1=>∃v,m1=[(1500000010,.box 0 [.ref 1500000033 v 0 (oF w.1.s (r0.length+1) (pre.map (·.1))).toList.length]),(1500000033,.row v ⟨1,false⟩ (oF w.1.s (r0.length+1) (pre.map (·.1))).isNone ((oF w.1.s (r0.length+1) (pre.map (·.1))).toList.map aM)),(1500000005,.box 0 [eI 1])]) [(10,.ptr 1500000010 0 0 0),(5,.ptr 1500000005 0 0 0),(35,.cn 225 [.bo ⟨1,false⟩ [.arr ⟨1,false⟩ (ba Hf w.1.s)] 0 0])] ?_ mixed rfl (by simp [ao,aq])
  (Dr _ _ (by simp) (λi h1 h2=>?_) (by rw[dE,w1];omega)) ?_ ⟨_,⟨0,rfl⟩,λl=>?_⟩ (λpre m1 ⟨v,h⟩=>by rw[h];simp[qD,bE]) (by exact rfl) (by exact rfl) (λpre x m1 hp hm1=>?_) (λm1 hm1=>?_)
 . simp -dsimp -implicitDefEqProofs only[go_sem]
 . simp only [List.getElem_map];refine ⟨_,rfl,?_⟩;cases w.1.s[i]'(by simpa using h1) with
   |none=>exact .inr ⟨rfl,rfl⟩
   |some k=>exact .inl rfl
 . simp -dsimp -implicitDefEqProofs only[go_sem]
 . simp -dsimp -implicitDefEqProofs only[go_sem];simp[oF]
 . obtain ⟨v,rfl⟩:=hm1;have hx:x.1<w.1.s.length:=Nat.lt_of_lt_of_eq x.2 (by rw [qe,dE]);have ey:(gN (w.1.s.map λo=>aQ o.toList))[x]=(eI ((r0.length-x.1:Nat):Int),aQ (w.1.s.getD (r0.length+1-1-x.1) none).toList):=by
    rw[Cl,dE,w1,uq7,List.getElem?_map,uq7 (l:=w.1.s),uq8 (by omega)];rfl
   rw[ey,bp,cE,b7,Du];generalize w.1.s.getD (r0.length+1-1-x.1) none=z at*;generalize oF w.1.s (r0.length+1) (pre.map (·.1))=o at*;simp -dsimp -implicitDefEqProofs only[fu,da,uq5,uq6];have t0:Int.toNat 0=0:=rfl;have t1:Int.toNat 1=1:=rfl;rcases o with _|k0<;>rcases z with _|k1
   . simp only[DP,cM,b7,Hb,Option.none_or];have f:(if (1:Int)-0<0 then (1:Int)-0 else 0)=0:=(by decide);simp -dsimp -implicitDefEqProofs only[go_sem,f,t0];((with_reducible and_intros);all_goals try first|omega|(refine ⟨?_,?_⟩<;>omega)|exact rfl);exact ⟨_,⟨v+1,rfl⟩,Tm _ _ _ _ _⟩
   . simp only[DP,DQ,cM,dL,cE,b7,Hb,Hc,Option.none_or];have f:(if (1:Int)-0<((1:Nat):Int) then (1:Int)-0 else ((1:Nat):Int))=1:=(by decide);simp -dsimp -implicitDefEqProofs only[go_sem,f,t1];((with_reducible and_intros);all_goals try first|omega|(refine ⟨?_,?_⟩<;>omega)|exact rfl);exact ⟨_,⟨v+1,rfl⟩,Tm _ _ _ _ _⟩
   . simp only[DP,DQ,cM,dL,cE,b7,Hc,Option.some_or];have f:(if (1:Int)-((1:Nat):Int)<0 then (1:Int)-((1:Nat):Int) else 0)=0:=(by decide);simp -dsimp -implicitDefEqProofs only[go_sem,f,t0];((with_reducible and_intros);all_goals try first|omega|(refine ⟨?_,?_⟩<;>omega)|exact rfl);exact ⟨_,⟨v+1,rfl⟩,Tm _ _ _ _ _⟩
   simp only[DQ,cM,dL,cE,b7,Hc,Option.some_or];have f:(if (1:Int)-((1:Nat):Int)<((1:Nat):Int) then (1:Int)-((1:Nat):Int) else ((1:Nat):Int))=0:=(by decide);simp -dsimp -implicitDefEqProofs only[go_sem,f,t0];((with_reducible and_intros);all_goals try first|omega|(refine ⟨?_,?_⟩<;>omega)|exact rfl);exact ⟨_,⟨v+1,rfl⟩,Tm _ _ _ _ _⟩
 obtain ⟨v,rfl⟩:=hm1;have hn:(gN (w.1.s.map λo=>aQ o.toList)).length=r0.length+1:=by rw[qe,dE,w1]
 have ef:∀n,((List.finRange n).map (·.1))=c_ n:=λn=>List.ext_getElem (by simp) (λi h1 h2=>by simp);rw[ef,hn];generalize oF w.1.s (r0.length+1) (c_ (r0.length+1))=o at*;subst hoo;simp -dsimp -implicitDefEqProofs only[go_sem,er]
theorem Qz (m:aJ)(t ab:lL)(h:t.length<=1048576)(h2:∀x∈t,x.length<=1048576)(h3:ab.length<=1048576)(h4:∀x∈ab,x.length<=1048576):Fn pG 106 [jR m t,aQ ab,eI 1] false (λr=>su r (.aX [aQ (zd m t ab),eI (if bh m t ab=true then 0 else 1)])):=by
 refine Fn.bP 69 [.tmp 6,.tmp 7] func106 (hv:=?_);have hc:=p_ m t ab h h2 h3 h4;unfold zd;rcases hd:bh m t ab with _|_
 . rw[hd,if_neg (by simp)] at hc;rw[if_neg (by simp),if_neg (by simp)];have e:((1:Int) != 0)=true:=rfl;have e2:((1:Int)==0)=false:=rfl;simp -dsimp -implicitDefEqProofs only[go_sem];refine aa hc ?_;simp -dsimp -implicitDefEqProofs only[go_sem,e,e2]
 rw[hd,if_pos rfl] at hc;rw[if_pos rfl,if_pos rfl];have e:((0:Int) != 0)=false:=rfl;have e2:((0:Int)==0)=true:=rfl;have hF:=iZ hd;have hw:=jE 1 0 300;rw[show bA 1 0 300=true from rfl] at hw;have ho:=pC m t ab hF;have hdr:=y7 m t ab hF;have hgl:=rF hF.oE t ab;have ht0:=hF.t0;have g0:=get_some ht0;have eg:t[0]=t.getD 0 []:=by rw[uq7,g0];rfl
 rw[eg] at g0;simp -dsimp -implicitDefEqProofs only[go_sem];refine aa hc ?_;simp -dsimp -implicitDefEqProofs only[go_sem,e2];refine aa hw ?_;simp -dsimp -implicitDefEqProofs only[go_sem,e];refine av ho (by simp[ax,ao,aq,aF]) ?_;have hgk:∀k∈cj m t ab,(k.length:Int)=m.ae:=λk hk=>(kq (m:=m) (by have:=hF.num;omega) (List.mem_filter.1 hk).1).len;have hdn:∀k∈cj m t ab,Fn pG 150 [jR m t,aQ ab,aM k] true (· =aM (Gr m t ab k)):=λk hk=>hdr k (hgk k hk);have hl:∀k,(Gr m t ab k).length=dn (ay m t ab (t.getD 0 []).length) k:=λk=>by unfold Gr dn;rw[show (ay m t ab (t.getD 0 []).length).length=(t.getD 0 []).length by rw[ay,dE,a_]]
 have cP:=Tl (ay m t ab (t.getD 0 []).length) ab (bx m) (t.getD 0 []).length;rw[show (bx m).filter (Ko (ay m t ab (t.getD 0 []).length) ab)=cj m t ab from rfl] at cP;rw[←cP];clear cP;have hwd:=hF.wd;clear hdr hgk hc hw;generalize cj m t ab=gs at*;generalize ay m t ab (t.getD 0 []).length=ls at*;generalize t.getD 0 []=r0 at*;simp -dsimp -implicitDefEqProofs only[go_sem,g0];((with_reducible and_intros);all_goals try omega);have hb1:∀o:Option lI,o.toList.length<=1:=λo=>by cases o<;>simp
 refine aj.up [1,2,3,9] [41,45,57,58,66,67] [29] r0.length (λi=>True) (λi=>[(11,eI ((r0.length-i:Nat):Int)),(10,.ref 29 0 0 (M5 ls gs r0.length i).toList.length)]) (λi=>[(29,.row 0 ⟨1,false⟩ (M5 ls gs r0.length i).isNone ((M5 ls gs r0.length i).toList.map aM))]) trivial ?_ rfl (λi hi _=>?_) (λ_=>?_)
 . simp -dsimp -implicitDefEqProofs only[go_sem,M5,DP,Hb,cM,b7]
 . have XZ:decide (((r0.length-i:Nat):Int)>0)=true:=dT (by omega);have TC:((r0.length-i:Nat):Int)-1=((r0.length-(i+1):Nat):Int):=(by omega);have hd1:r0.length-(i+1)<=1000:=(by omega);rw [M5];generalize r0.length-(i+1)=d1 at*;generalize r0.length-i=d at*;generalize hW:M5 ls gs r0.length i=o at*;rcases o with _|k0
   . rw [Option.none_or];simp -dsimp -implicitDefEqProofs only [go_sem,XZ,DP,Hb,cM,b7];have Uw:=λj k=>M4 ls gs d j k;have Ux:=λj h=>M3 ls gs d j h;have fW:qj ls (gs.take gs.length) d=qj ls gs d:=(by rw [e8]);have h0:qj ls [] d=none:=rfl;refine aj.up [1,2,3,9,11] [41,45,57,58,66,67] [29] gs.length (λ_=>True) (λj=>[(12,eI j),(10,.ref 29 0 0 (qj ls (gs.take j) d).toList.length)]) (λj=>[(29,.row 0 ⟨1,false⟩ (qj ls (gs.take j) d).isNone ((qj ls (gs.take j) d).toList.map aM))]) trivial ?_ rfl (λj hj _=> ?_) (λ_=> ?_)
     . simp -dsimp -implicitDefEqProofs only[go_sem,h0,DP,Hb,cM,b7]
     . have gj:=get_some hj;have lj:=aE hj;have Uy:=hdn _ (uq9 hj);have hln:=hl gs[j];rcases hf:qj ls (gs.take j) d with _|k1
       . rw [Ux j hj hf];clear Uw Ux;generalize gs[j]=g at*;rw [←hln];generalize Gr m t ab g=D at*;have e3:decide ((0:Int)<1)=true:=rfl;by_cases hD:D.length=d
         . rw[if_pos hD];have e4:((dn ls g:Int)==(d:Int))=true:=(by rw[←hln,hD];simp);simp -dsimp -implicitDefEqProofs only[go_sem,lj,e3,DP,Hb,cM,b7];refine aj.draw mixed rfl ?_;simp -dsimp -implicitDefEqProofs only[go_sem,gj];((with_reducible and_intros);all_goals try omega);(refine an (Uy) ?_;try simp -dsimp -implicitDefEqProofs only[go_sem, *]);refine ⟨by exact rfl,?_⟩;simp -dsimp -implicitDefEqProofs only[go_sem,DQ,Hc,cM,dL,b7,cE,Nat.zero_add];((with_reducible and_intros);all_goals try omega);exact .inr ⟨⟨by omega,by omega⟩,by rw[Int.natCast_add];rfl⟩
         rw[if_neg hD];have e4:((dn ls g:Int)==(d:Int))=false:=(by rw[←hln];simp;omega);simp -dsimp -implicitDefEqProofs only[go_sem,lj,e3,DP,Hb,cM,b7];refine aj.draw mixed rfl ?_;simp -dsimp -implicitDefEqProofs only[go_sem,gj];((with_reducible and_intros);all_goals try omega);(refine an (Uy) ?_;try simp -dsimp -implicitDefEqProofs only[go_sem, *]);refine ⟨by exact rfl,?_⟩;simp -dsimp -implicitDefEqProofs only[go_sem,DP,Hb,cM,b7];((with_reducible and_intros);all_goals try first|(refine ⟨?_,?_⟩<;>omega)|exact rfl)
       have hm1:=Uw j k1 hf;have e3:decide (((1:Nat):Int)<1)=false:=rfl;simp -dsimp -implicitDefEqProofs only[go_sem,lj,e3,hm1,TC,DQ,Hc,cM,dL,b7,cE,Nat.zero_add];(all_goals try ((refine ⟨?_,?_⟩<;>omega)))
     simp -dsimp -implicitDefEqProofs only[go_sem,aA,TC];(all_goals try ((refine ⟨?_,?_⟩<;>omega)))
   rw[Option.some_or];simp -dsimp -implicitDefEqProofs only[go_sem,XZ,DQ,Hc,cM,dL,b7,cE,Nat.zero_add];refine aj.up [1,2,3,9,11] [41,45,57,58,66,67] [] 0 (λ_=>True) (λj=>[(12,eI j),(10,.ref 29 0 0 1)]) (λ_=>[]) trivial ?_ rfl (λj hj _=>absurd hj (DO _)) (λ_=>?_)
   . simp -dsimp -implicitDefEqProofs only[go_sem]
   have e3:decide (((1:Nat):Int)<1)=false:=rfl;cases hb0:decide ((0:Int)<(gs.length:Int)) with
   |true=>
    simp -dsimp -implicitDefEqProofs only[go_sem,hb0,e3,TC,DQ,Hc,cM,dL,b7,cE,Nat.zero_add];(all_goals try ((refine ⟨?_,?_⟩<;>omega)))
   |false=>
    simp -dsimp -implicitDefEqProofs only[go_sem,hb0,TC,DQ,Hc,cM,dL,b7,cE,Nat.zero_add];(all_goals try ((refine ⟨?_,?_⟩<;>omega)))
 have e0:decide (((r0.length-r0.length:Nat):Int)>0)=false:=by rw[Nat.sub_self];rfl
 generalize M5 ls gs r0.length r0.length=o at*;simp -dsimp -implicitDefEqProofs only[go_sem,e0]
theorem QA (ks:lL)(h:ks.length<=1048576):oh pG 272 [aQ ks] ⟨1,false⟩ (ks.map aM):=by
 refine oh.cT 8 [.tmp 2] func272 (hv:=?_);simp -dsimp -implicitDefEqProofs only[go_sem];intro c hc;rcases c with _|_
 . rcases ks with _|⟨k,ks⟩
   . simp -dsimp -implicitDefEqProofs only[go_sem,b7,cM];exact .inr ⟨5,1,rfl,.inr ⟨rfl,rfl⟩⟩
   simp -dsimp -implicitDefEqProofs only[go_sem,cE,dL];exact ⟨by simp at h;omega,.inr ⟨5,1,by simp,.inl rfl⟩⟩
 have e:=hc rfl;simp -dsimp -implicitDefEqProofs only[go_sem,e];exact .inl ⟨rfl,rfl⟩
theorem QB (xs:lI)(x:Int):has xs x=true↔x∈xs:=by
 unfold has;rw[Bool.not_eq_true',List.all_eq_false];constructor
 . rintro ⟨y,hy,h⟩;have:y=x:=(by simpa using h);exact this▸hy
 intro h;exact ⟨x,h,by simp⟩
def nT (l:lL)(key c:lI):Bool:=(c_ c.length).all λi=>(c.getD i 0==key.getD i 0)||has (l.getD i []) (c.getD i 0)
theorem Cq (m:aJ)(K:lL){n i:Nat}(h:i<n):(km m K n).getD i []=jG m K i:=by rw[uq7];simp[km,h]
theorem GA (m:aJ)(K:lL)(i:Nat)(d:Int)(h:0<=d/\d<m.ak):has (jG m K i) d=K.any λk=>k.getD i 0==d:=by
 obtain ⟨j,rfl⟩:∃j:Nat,d=(j:Int):=⟨d.toNat,by omega⟩;have hj:j<m.ak.toNat:=by omega
 have e:has (jG m K i) (j:Int)=true↔j3 K i j=true:=by
  rw[QB];constructor
  . intro hm;obtain ⟨q,_,e,hp⟩:=sR hm;have:j=q:=(by omega);subst this;exact hp
  intro hp;exact rf hj hp
 exact Bool.eq_iff_iff.2 e
theorem Jf (m:aJ)(K:lL)(key c:lI)(n:Nat)(hc:c.length<=n)(hd:∀y∈c,0<=y/\y<m.ak):dX (km m (K++[key]) n) c=nT (km m K n) key c:=by
 unfold dX nT;refine Bool.eq_iff_iff.2 ?_;simp only[uq4,List.mem_range];refine forall_congr' λi=>imp_congr_right λhi=>?_;have hci:c.getD i 0∈c:=by rw[uq7,uq8 hi];exact uq9 hi
 have hb:=hd _ hci;rw[Cq m _ (by omega),Cq m _ (by omega),GA m _ i _ hb,GA m _ i _ hb,List.any_append];have e:([key].any λk=>k.getD i 0==c.getD i 0)=(c.getD i 0==key.getD i 0):=by simp only[List.any_cons,List.any_nil,Bool.or_false];exact Bool.eq_iff_iff.2 ⟨λh=>by simp at h ⊢;exact h.symm,λh=>by simp at h ⊢;exact h.symm⟩
 rw[e,Bool.or_comm]
theorem GB (t ab:lL)(key:lI)(k:Nat):∀i,i<=ab.length->js t (ab++[key]) k i=js t ab k i
 |0,_=>rfl
 |i+1,h=>by
  rw[gL,gL,GB t ab key k i (by omega)];have:(ab++[key]).getD i []=ab.getD i []:=by rw[uq7,List.getElem?_append_left (by omega),←uq7]
  rw[this]
theorem Cr (m:aJ)(t ab:lL)(key:lI)(k:Nat):bQ m t (ab++[key]) k=if ((t.getD ab.length []).getD k 0==1)=true then km m (js t ab k ab.length++[key]) m.ae.toNat else bQ m t ab k:=by
 unfold bQ;rw[bk,List.length_singleton,gL,GB t ab key k _ (j_ _)];have:(ab++[key]).getD ab.length []=key:=by simp[uq7]
 rw[this];split<;>rfl
def ze (m:aJ)(t ab:lL)(i k:Nat):Bool:=((t.getD i []).getD k 0==0)&&dX (bQ m t ab k) (ab.getD i [])
theorem GC (m:aJ)(t ab:lL)(i:Nat):∀n,ow m t ab i n=[]↔∀k,k<n->ze m t ab i k=false
 |0=>⟨λ_ k h=>absurd h (DO _),λ_=>rfl⟩
 |n+1=>by
  rw[p7];have ih:=GC m t ab i n;constructor
  . intro h k hk;split at h
    . simp at h
    rename_i hb;by_cases e:k=n
    . subst e;simpa [ze] using hb
    exact ih.1 h k (by omega)
  intro h;have hb:ze m t ab i n=false:=h n (by omega);unfold ze at hb;rw[hb,if_neg (by simp)];exact ih.2 λk hk=>h k (by omega)
theorem Cs (m:aJ)(t ab:lL):∀n,jU m t ab n=[]↔∀i,i<n->∀k,k<(t.getD 0 []).length->ze m t ab i k=false
 |0=>⟨λ_ k h=>absurd h (DO _),λ_=>rfl⟩
 |n+1=>by
  rw[nI,List.append_eq_nil_iff,Cs m t ab n,GC];constructor
  . rintro ⟨h1,h2⟩ i hi k hk;by_cases e:i=n
    . subst e;exact h2 k hk
    exact h1 i (by omega) k hk
  intro h;exact ⟨λi hi=>h i (by omega),h n (by omega)⟩
theorem GD (m:aJ)(t ab:lL):lW m t ab=true↔∀i,i<ab.length->∀k,k<(t.getD 0 []).length->ze m t ab i k=false:=by
 rw[←Cs];unfold lW gR;rw[beq_iff_eq];constructor
 . intro h;exact List.eq_nil_of_length_eq_zero (by omega)
 intro h;rw[h];rfl
def QC (m:aJ)(t ab:lL)(key:lI)(k:Nat):Bool:=((t.getD ab.length []).getD k 0==0)&&dX (bQ m t ab k) key
def QD (m:aJ)(t ab:lL)(key:lI)(k i:Nat):Bool:=(((t.getD ab.length []).getD k 0==1)&&((t.getD i []).getD k 0==0))&&nT (bQ m t ab k) key (ab.getD i [])
def nU (m:aJ)(t ab:lL)(key:lI):Bool:=(c_ (t.getD 0 []).length).all λk=> !QC m t ab key k&&(c_ ab.length).all λi=> !QD m t ab key k i
theorem zf (m:aJ)(t ab:lL)(key:lI)(ho:lW m t ab=true)(hc:∀x∈ab,(x.length:Int)=m.ae/\∀y∈x,0<=y/\y<m.ak):lW m t (ab++[key])=nU m t ab key:=by
 have ho:=(GD m t ab).1 ho;refine Bool.eq_iff_iff.2 ?_;rw[GD];unfold nU;simp only[uq4,List.mem_range,uq0,Bool.not_eq_true'];have hlen:(ab++[key]).length=ab.length+1:=by simp
 have kc:(ab++[key]).getD ab.length []=key:=by simp[uq7]
 have Nq:∀i,i<ab.length->(ab++[key]).getD i []=ab.getD i []:=λi hi=>by rw[uq7,List.getElem?_append_left hi,←uq7]
 have e1:∀k,ze m t (ab++[key]) ab.length k=QC m t ab key k:=by
  intro k;unfold ze QC;rw[kc,Cr];by_cases hz:((t.getD ab.length []).getD k 0==0)=true
  . have:((t.getD ab.length []).getD k 0==1)=false:=by
     have:=beq_iff_eq.1 hz;rw[this];rfl
    rw[this,if_neg (by simp)]
  have hz:((t.getD ab.length []).getD k 0==0)=false:=by simpa using hz
  rw[hz,uq1,uq1]
 have e2:∀i,i<ab.length->∀k,k<(t.getD 0 []).length->ze m t (ab++[key]) i k=QD m t ab key k i:=by
  intro i hi k hk;have hold:=ho i hi k hk;unfold ze at hold;unfold ze QD;rw[Nq i hi,Cr];have hci:ab.getD i []∈ab:=by rw[uq7,uq8 hi];exact uq9 hi
  obtain ⟨hl,hd⟩:=hc _ hci;by_cases h1:((t.getD ab.length []).getD k 0==1)=true
  . rw[if_pos h1,h1,uq3,Jf m _ key _ _ (by omega) hd];rfl
  have h1':((t.getD ab.length []).getD k 0==1)=false:=by simpa using h1
  rw[if_neg h1,h1',uq1,uq1];exact hold
 constructor
 . intro h k hk;refine ⟨by rw[←e1];exact h _ (by omega) k hk,λi hi=>by rw[←e2 i hi k hk];exact h i (by omega) k hk⟩
 intro h i hi k hk;by_cases e:i=ab.length
 . subst e;rw[e1];exact (h k hk).1
 rw[e2 i (by omega) k hk];exact (h k hk).2 i (by omega)
theorem fE (t:lL)(h:t.length<=1000)(h2:∀x∈t,0<x.length/\x.length<=1048576):Fn pG 115 [aQ t] true (· =aQ t):=by
 refine Fn.au 20 [.tmp 2] func115 (hv:=?_);simp -dsimp -implicitDefEqProofs only[go_sem];refine aj.Zv [7,8] [15,16,17] [6] t.length (λ_=>True) (λi=>[(9,eI i),(3,.ref 6 0 0 i)]) (λi=>[(6,.row 0 ⟨1,false⟩ true ((t.take i).map aM))]) trivial ?_ rfl (λi hi _=>?_) (λ_=>?_)
 . refine .here ?_;simp -dsimp -implicitDefEqProofs only[go_sem]
 . have gi:=get_some hi;have li:=aE hi;have hx:=h2 _ (uq9 hi);have ho:=yD t[i] hx.2;have e2:(t.take (i+1)).map aM=(t.take i).map aM++[aM t[i]]:=(by rw[eZ hi,bp];rfl);have hln:(t.take i).length=i:=(by simp;omega);rw[e2];clear e2;generalize t.take i=F at*;generalize t[i]=x at*;have tF:(F.map aM).take i=F.map aM:=cm (by simp;omega);simp -dsimp -implicitDefEqProofs only[pz,Nat.reduceBEq,Nat.reduceDiv,Nat.reduceAdd,↓reduceIte,Nat.reduceEqDiff];refine aj.Vv rfl ?_;simp -dsimp -implicitDefEqProofs only[go_sem,li];refine aj.Vv rfl ?_;simp -dsimp -implicitDefEqProofs only[go_sem];refine aj.Yf ?_;refine aj.Vw ?_;refine aj.Vv rfl ?_;simp -dsimp -implicitDefEqProofs only[go_sem,gi];((with_reducible and_intros);all_goals try omega);refine aj.cut 3 rfl ?_;simp -dsimp -implicitDefEqProofs only[fu,da,uq5,uq6];simp -dsimp -implicitDefEqProofs only[go_sem];refine aa ho ?_;simp -dsimp -implicitDefEqProofs only[go_sem];refine nw.known 15 16000 0 x.length ⟨1,false⟩ _ rfl (by decide) rfl (by simp) hx.1 (by decide) λu=>?_;simp -dsimp -implicitDefEqProofs only[go_sem,tF];((with_reducible and_intros);all_goals try omega);refine aj.vc rfl ?_;simp -dsimp -implicitDefEqProofs only[go_sem];((with_reducible and_intros);all_goals try ((refine ⟨?_,?_⟩<;>omega)));refine yp.back 6 1 i 16000 0 _ _ _ u (by decide) rfl (by simp[hln]) rfl (.here ?_);rw[show (F.map aM++[AV.val u]).set i (.arr ⟨1,false⟩ (x.map eI))=F.map aM++[aM x] by rw[List.set_append_right _ _ (by simp;omega)];simp[hln]];simp -dsimp -implicitDefEqProofs only[go_sem];all_goals try exact rfl
 refine aj.vc rfl ?_;rw[e8];simp -dsimp -implicitDefEqProofs only[go_sem,aA];all_goals first|(simp;done)|skip
theorem GF {t ab:lL}{k r:Nat}(h1:((t.getD r []).getD k 0==1)=true):∀n,r<n->ab.getD r []∈js t ab k n
 |0,h=>by omega
 |n+1,h=>by
  rw[gL];by_cases e:r=n
  . subst e;rw[if_pos h1];simp
  have:=GF h1 (ab:=ab) n (by omega);split
  . exact List.mem_append_left _ this
  exact this
theorem M6 {xs:lI}{n:Int}(hp:xs.Pairwise (· < ·))(hb:∀x∈xs,0<=x/\x<n):lQ xs n=true:=by
 unfold lQ;rw[uq4];intro i hi;have hi:=List.mem_range.1 hi;have h1:=hb _ (uq9 hi);have e:xs.getD i 0=xs[i]:=by simp[uq7,hi]
 simp only[eW,uq0,Bool.or_eq_true,decide_eq_true_eq,beq_iff_eq];rw[e];refine ⟨h1,?_⟩;by_cases h0:i=0
 . exact .inl h0
 have hi':i-1<xs.length:=by omega
 have e':xs.getD (i-1) 0=xs[i-1]:=by simp[uq7,hi']
 rw[e'];exact .inr (List.pairwise_iff_getElem.1 hp (i-1) i hi' hi (by omega))
theorem zg {m:aJ}{t ab:lL}(hs:eX m t=true)(hc:dY m t ab=true){k:Nat}(hk:k<(t.getD 0 []).length):fv m (bQ m t ab k)=true:=by
 have lz:=lS hs;have ⟨⟨n1,n2⟩,n3,n4⟩:=aI lz;obtain ⟨c1,c2⟩:=dK hc;simp only[eX,uq0] at hs;have hd:=hs.2;unfold iC at hd;rw[uq4] at hd;have hd:=hd k (List.mem_range.2 hk);unfold eK at hd;obtain ⟨row,Hd,hr1⟩:=List.any_eq_true.1 hd;obtain ⟨r,hr,rfl⟩:=List.getElem_of_mem Hd;have hrt:t.getD r []=t[r]:=by simp[uq7,hr]
 have hin:=GF (ab:=ab) (t:=t) (k:=k) (r:=r) (by rw[hrt];exact hr1) ab.length (by omega);have hrc:r<ab.length:=by omega
 have hcr:ab.getD r []=ab[r]:=by simp[uq7,hrc]
 rw[hcr] at hin;obtain ⟨k1,k2⟩:=gC (c2 _ (uq9 hrc));simp only[fv,uq0,beq_iff_eq,uq4];refine ⟨by rw[kZ];omega,λx hx=>?_⟩;simp only[bQ,km,List.mem_map,List.mem_range] at hx;obtain ⟨i,hi,rfl⟩:=hx;simp only[cK,uq0,decide_eq_true_eq];have hil:i<ab[r].length:=by omega
 have hb:=k2 _ (uq9 hil);constructor
 . have hm:=rf (p:=j3 (js t ab k ab.length) i) (n:=m.ak.toNat) (j:=ab[r][i].toNat) (by omega) (by
    unfold j3;rw[List.any_eq_true];refine ⟨ab[r],hin,?_⟩;rw[beq_iff_eq,show ab[r].getD i 0=ab[r][i] by simp[uq7,hil]]
    omega)
   intro h0;have:jG m (js t ab k ab.length) i=[]:=List.eq_nil_of_length_eq_zero h0;unfold jG at this;rw[this] at hm;cases hm
 refine M6 (sW _ _) λx hx=>?_;obtain ⟨j,hj,rfl,_⟩:=sR hx;omega
def j7 (p:lI):lU:=Lib.join (p.map itoa) [43]
def qk (ps:lL):lU:=Lib.join (ps.map j7) [32]
theorem M7 {p:lI}{k:Nat}(hk:k<p.length):j7 (p.take (k+1))=if k=0 then itoa p[k] else j7 (p.take k)++([43]++itoa p[k]):=by
 rw[j7,eZ hk,bp,eR,rA];by_cases hz:k=0
 . subst hz;simp
 rw[if_neg hz,if_neg]
 . rfl
 intro e2;have:=congrArg List.length e2;rw[dE,List.length_take,cM] at this;omega
theorem M8 {ps:lL}{i:Nat}(hi:i<ps.length):qk (ps.take (i+1))=if i=0 then j7 ps[i] else qk (ps.take i)++([32]++j7 ps[i]):=by
 rw[qk,eZ hi,bp,eR,rA];by_cases hz:i=0
 . subst hz;simp
 rw[if_neg hz,if_neg]
 . rfl
 intro e2;have:=congrArg List.length e2;rw[dE,List.length_take,cM] at this;omega
def GG (ps:lL):Prop:=ps.length<=8/\∀p∈ps,p.length<=16/\∀x∈p,0<=x/\x<=9
theorem GH {p:lI}(h:p.length<=16)(hx:∀x∈p,0<=x/\x<=9):(j7 p).length<=352:=by
 have h1:=uc (p.map itoa) [43] 21 (by
  intro y hy;obtain ⟨x,hxm,rfl⟩:=List.mem_map.1 hy
  exact bU (by have:=hx x hxm;unfold jy;omega))
 rw[dE] at h1;simp only[List.length_singleton] at h1;unfold j7;omega
theorem GI {ps:lL}(h:GG ps):(qk ps).length<=2824:=by
 have h1:=uc (ps.map j7) [32] 352 (by
  intro y hy;obtain ⟨p,hp,rfl⟩:=List.mem_map.1 hy
  exact GH (h.2 p hp).1 (h.2 p hp).2)
 rw[dE] at h1;simp only[List.length_singleton] at h1;have:=h.1;unfold qk;omega
theorem Jg {ps:lL}(h:GG ps)(i:Nat):GG (ps.take i):=⟨by have:=h.1;simp;omega,λp hp=>h.2 p (dh hp)⟩
theorem Kt {m:aJ}{l:lL}(hm:aU m=true)(hl:fv m l=true)(h8:∀x∈l,x.length<=8):GG (pins m l):=by have hn:=aI hm;simp only[fv,uq0,beq_iff_eq,uq4] at hl;refine ⟨by rw[pins,dE];omega,λp hp=>?_⟩;obtain ⟨s,hs,rfl⟩:=List.mem_map.1 hp;obtain ⟨h1,h2⟩:=IT (hl.2 s hs);have:=h8 s hs;exact ⟨by rw[Tg h1];omega,λx hx=>by have:=h2 x hx;omega⟩
set_option maxHeartbeats 4000000 in
theorem GJ (m:aJ)(l:lL)(hm:aU m=true)(hl:fv m l=true)(h8:∀x∈l,x.length<=8):Fn pG 119 [kj m,sT l] true (· = .aX [eS (qk (pins m l)),eI 0]):=by
 refine Fn.au 34 [.tmp 4,.tmp 5] func119 (hv:=?_);have hll:l.length<=8:=by have hn:=aI hm;simp only[fv,uq0,beq_iff_eq] at hl;omega
 have hc:=FY m [l] (by simp) (λx hx=>by simp only[List.mem_singleton] at hx;subst hx;exact ⟨by omega,λy hy=>by have:=h8 y hy;omega⟩);rw[FX,Dd,hm,hl] at hc;have hc:Fn pG 163 [kj m,.arr ⟨1,true⟩ [sT l]] true (· =eI 0):=hc;have hp:=P7 m l hm hl (λx hx=>by have:=h8 x hx;omega);have hok:=Kt hm hl h8;have hj:=λ(i:Nat) (hi:i<(pins m l).length)=>ud [43] (by simp) (pins m l)[i] (by have:=(hok.2 _ (uq9 hi)).1;omega) (λx hx=>by have:=(hok.2 _ (uq9 hi)).2 x hx;unfold jy;omega);generalize pins m l=ps at*;have hps:=hok.1;have e:((0:Int) != 0)=false:=rfl;simp -dsimp -implicitDefEqProofs only[go_sem];refine aa hc ?_;simp -dsimp -implicitDefEqProofs only[go_sem,e];refine av hp (by simp[ax,ao,aq,aF]) ?_;simp -dsimp -implicitDefEqProofs only[go_sem];refine aj.up [20,21] [28,29,30] [17] ps.length (λ_=>True) (λi=>[(7,.ref 17 0 0 i),(22,eI i)]) (λi=>[(17,.row 0 ⟨1,false⟩ true (((ps.take i).map j7).map eS))]) trivial ?_ rfl (λi hi _=>?_) (λ_=>?_)
 . simp -dsimp -implicitDefEqProofs only[go_sem]
 . have gi:=get_some hi;have hji:=hj i hi;have htk:(ps.take (i+1)).map j7=(ps.take i).map j7++[j7 ps[i]]:=(by rw[eZ hi,bp];rfl);have hln:((ps.take i).map j7).length=i:=(by simp;omega);rw[htk,bp,eR];clear htk hj;generalize (ps.take i).map j7=K at*;rw[show Lib.join (ps[i].map itoa) [43]=j7 ps[i] from rfl] at hji;generalize ps[i]=p at*;have tK:di i (K.map eS)=K.map eS:=cm (by simp[hln]);simp -dsimp -implicitDefEqProofs only[go_sem,aE hi,gi];((with_reducible and_intros);all_goals try omega);refine aa hji ?_;simp -dsimp -implicitDefEqProofs only[go_sem,tK];((with_reducible and_intros);all_goals try first|omega|(refine ⟨?_,?_⟩<;>omega)|exact rfl)
 have hpl:=GI hok;rw[e8];have e2:di ps.length (ba eS (ba j7 ps))=ba eS (ba j7 ps):=cm (by simp);have hJ:=P1 (ps.map j7) [32] (by simp;omega) (by unfold qk at hpl;omega);simp -dsimp -implicitDefEqProofs only[go_sem,aA,e2];refine aa hJ ?_;simp -dsimp -implicitDefEqProofs only[go_sem];all_goals (first|exact rfl|skip)
set_option maxHeartbeats 4000000 in
theorem M9 (ps:lL)(h:GG ps):Fn pG 147 [aQ ps] true (· =eS (qk ps)):=by
 refine Fn.au 40 [.tmp 2] func147 (hv:=?_);have hps:=h.1;simp -dsimp -implicitDefEqProofs only[go_sem];refine aj.up [0] [8,21,37] [] ps.length (λ_=>True) (λi=>[(3,eS (qk (ps.take i))),(4,eI i)]) (λ_=>[]) trivial ?_ rfl (λi hi _=>?_) (λ_=>?_)
 . simp -dsimp -implicitDefEqProofs only[go_sem];all_goals first|rfl|skip
 . have gi:=get_some hi;have hsl:=GI (Jg h i);obtain ⟨hp1,hp2⟩:=h.2 _ (uq9 hi);obtain ⟨base,qK,hbl⟩:∃base:lU,base=(if i=0 then [] else qk (ps.take i)++[32])/\base.length<=2825:=⟨_,rfl,by split<;>simp;omega⟩;have z6:qk (ps.take (i+1))=base++j7 ps[i]:=by
    rw[M8 hi,qK];split
    . rfl
    rw[List.append_assoc]
   rw[z6];clear z6;have inner:∀(p:lI),p.length<=16->(∀x∈p,0<=x/\x<=9)->∀k,k<=p.length->(j7 (p.take k)).length<=352:=λp q1 q2 k hk=>GH (by simp;omega) λx hx=>q2 x (dh hx);have hin:=inner _ hp1 hp2;clear inner;obtain ⟨o0,ho0⟩:∃o0:lU,qk (ps.take i)=o0:=⟨_,rfl⟩;rw[ho0] at qK hsl ⊢;generalize ps[i]=p at*;simp -dsimp -implicitDefEqProofs only[pz,↓reduceIte,Nat.reduceEqDiff];rcases Nat.eq_zero_or_pos i with h0|h0
   case' inl=>
    have d0:decide ((i:Int)>0)=false:=dF (by omega);have hb0:o0=base:=by rw[qK,if_pos h0,←ho0,h0];rfl
    rw[hb0];simp -dsimp -implicitDefEqProofs only[go_sem,aE hi,d0]
   case' inr=>
    have d0:decide ((i:Int)>0)=true:=dT (by omega);have hb0:o0++[32]=base:=(by rw[qK,if_neg (by omega)]);simp -dsimp -implicitDefEqProofs only[go_sem,aE hi,d0,hb0]
   all_goals
    ((with_reducible and_intros);all_goals try omega);refine aj.up [0,4] [21,37] [] p.length (λ_=>True) (λk=>[(3,eS (base++j7 (p.take k))),(5,eI k)]) (λ_=>[]) trivial ?_ rfl (λk hk _=>?_) (λ_=>?_)
    . simp -dsimp -implicitDefEqProofs only[go_sem];all_goals first|(simp[j7,join_nil];done)|skip
    . have gk:=get_some hk;have hd:=cC p[k] (by have:=hp2 _ (uq9 hk);omega);have hil:=bU (v:=p[k]) (by have:=hp2 _ (uq9 hk);unfold jy;omega);have hk1:=hin k (by omega);rw [M7 hk];rcases Nat.eq_zero_or_pos k with g0|g0
      . have q0:decide ((k:Int)>0)=false:=dF (by omega);have ez:j7 (p.take k)=[]:=(by rw[g0];rfl);rw[if_pos g0,ez,List.append_nil];generalize p[k]=x at*;simp -dsimp -implicitDefEqProofs only[go_sem,aE hk,gi,gk,q0];((with_reducible and_intros);all_goals try omega);refine aa hd ?_;simp -dsimp -implicitDefEqProofs only[go_sem];((with_reducible and_intros);all_goals try first|omega|(refine ⟨?_,?_⟩<;>omega)|exact rfl)
      have q0:decide ((k:Int)>0)=true:=dT (by omega);rw[if_neg (by omega)];generalize j7 (p.take k)=J at*;generalize p[k]=x at*;simp -dsimp -implicitDefEqProofs only[go_sem,aE hk,gi,gk,q0];((with_reducible and_intros);all_goals try omega);refine aa hd ?_;simp -dsimp -implicitDefEqProofs only[go_sem];((with_reducible and_intros);all_goals try first|omega|(refine ⟨?_,?_⟩<;>omega)|exact rfl);all_goals first|(simp;done)|(first|omega|(refine ⟨?_,?_⟩<;>omega)|exact rfl|(simp;done)|skip)
    simp -dsimp -implicitDefEqProofs only[go_sem,gi,aA,e8];((with_reducible and_intros);all_goals try first|omega|(refine ⟨?_,?_⟩<;>omega)|exact rfl)
 simp -dsimp -implicitDefEqProofs only[go_sem,aA,e8]
theorem GK (m:aJ)(l:lL)(hm:aU m=true)(hl:fv m l=true)(h8:∀x∈l,x.length<=8):Fn pG 102 [kj m,sT l] true (· = .aX [eS (qk (pins m l)),eI 0]):=by
 refine Fn.au 14 [.tmp 4,.tmp 5] func102 (hv:=?_);have hll:l.length<=8:=by have hn:=aI hm;simp only[fv,uq0,beq_iff_eq] at hl;omega
 have hc:=Mr m l (by omega) (λy hy=>by have:=h8 y hy;omega);rw[Dd,hm,hl] at hc;have hp:=MF m l hm hl (λx hx=>by have:=h8 x hx;omega);have ht:=M9 (pins m l) (Kt hm hl h8);generalize pins m l=ps at*;simp -dsimp -implicitDefEqProofs only[go_sem];refine aa hc ?_;simp -dsimp -implicitDefEqProofs only[go_sem];refine av hp (by simp[ax,ao,aq,aF]) ?_;simp -dsimp -implicitDefEqProofs only[go_sem];refine aa ht ?_;simp -dsimp -implicitDefEqProofs only[go_sem]
theorem M_ (m m2:Mem)(x:AV)(sh:Sh)(xs:lA)(i j:Nat):vU m m2 x (.bo sh xs i j)=jN m m2 x (.bo sh xs i j):=by cases x<;>rfl
theorem Jh (m m2:Mem)(sh:Sh)(xs ys:lA)(i j:Nat):jN m m2 (.bo sh xs i j) (.bo sh ys i j)=(xs=ys):=by simp[jN]
attribute [go_sem ↓] M_ Jh
theorem vL (l:lL)(key c:lI)(h0:c.length<=l.length)(hk:c.length<=key.length)(h1:l.length<=1048576)(h2:∀x∈l,x.length<=1048576):Fn pG 281 [sT l,aM key,aM c] true (· =eB (nT l key c)):=by
 refine Fn.au 33 [.tmp 6] func281 (hv:=?_);simp -dsimp -implicitDefEqProofs only[go_sem];refine aj.up [1,3,9,10] [29] [] c.length (λi=>((c_ i).all λi=>(c.getD i 0==key.getD i 0)||has (l.getD i []) (c.getD i 0))=true) (λi=>[(11,eI i)]) (λ_=>[]) rfl ?_ rfl (λi hi hI=>?_) (λhI=>?_)
 . simp -dsimp -implicitDefEqProofs only[go_sem]
 . have gi:=get_some (show i<l.length by omega);have gk:=get_some (show i<key.length by omega);have gc:=get_some hi;have li:=aE hi;have hp:((c.getD i 0==key.getD i 0)||has (l.getD i []) (c.getD i 0))=((c[i]==key[i])||has l[i] c[i]):=(by simp [uq7,hi,show i<l.length by omega,show i<key.length by omega]);have hq:=qZ l[i] c[i] (h2 _ (uq9 _));have no:((c[i]==key[i])||has l[i] c[i])=false->nT l key c=false:=λh=>b8 hi (by rw [hp];exact h);have yes:((c[i]==key[i])||has l[i] c[i])=true->((c_ (i+1)).all λi=>(c.getD i 0==key.getD i 0)||has (l.getD i []) (c.getD i 0))=true:=λh=>by rw [bj,hI,hp,h];rfl
   clear hp hI;generalize l[i]=x at*;generalize c[i]=z at*;generalize key[i]=y at*;rcases he:(z==y) with _|_
   . have e1:(z != y)=true:=(by simp only [bne,he];rfl);rw [he,Bool.false_or] at no yes;simp -dsimp -implicitDefEqProofs only [go_sem,gi,gc,gk,li,e1];((with_reducible and_intros);all_goals try omega);refine aa hq ?_;rcases hb:has x z with _|_
     . rw[no hb];simp -dsimp -implicitDefEqProofs only[go_sem]
     simp -dsimp -implicitDefEqProofs only[go_sem];refine ⟨⟨by omega,by omega⟩,?_,rfl⟩;rw[←List.range_succ];exact yes hb
   have e1:(z != y)=false:=(by simp only[bne,he];rfl);rw[he,Bool.true_or] at yes;simp -dsimp -implicitDefEqProofs only[go_sem,gc,gk,li,e1];((with_reducible and_intros);all_goals try first|omega|(refine ⟨?_,?_⟩<;>omega)|exact rfl);rw[←List.range_succ];exact yes rfl
 simp -dsimp -implicitDefEqProofs only[go_sem,aA];rw[show nT l key c=true from hI]
def oA (m:aJ)(t ab:lL):lA:=[.bo ⟨1,false⟩ [qi (ay m t ab (t.getD 0 []).length)] 0 0,.bo ⟨1,false⟩ [aM (t.getD ab.length [])] 0 0,.bo ⟨1,false⟩ [aQ ab] 0 0,.bo ⟨6,true⟩ [jR m t] 0 0]
theorem QE (m:aJ)(t ab:lL)(key:lI)(hm:aU m=true)(h0:t.length<=1000)(h1:ab.length<t.length)(hk:∀i (hi:i<t.length),t[i].length=(t.getD 0 []).length)(hd:(t.getD 0 []).length<=1000)(hc:∀x∈ab,(x.length:Int)=m.ae)
 (Wl:(key.length:Int)=m.ae):Fn pG 280 (aM key::oA m t ab) true (· =eB (nU m t ab key)):=by
 have ⟨⟨n1,n2⟩,n3,n4⟩:=aI hm;unfold oA;refine Fn.au 59 [.tmp 6] func280 (hv:=?_);have hll:=dP m t ab (t.getD 0 []).length;have Hd:(t.getD ab.length []).length=(t.getD 0 []).length:=by rw[uq7,uq8 h1];exact hk _ h1
 unfold nU;have hgl:=λk (h:k<(t.getD 0 []).length)=>jT m t ab h;have hL:=λk=>kZ m t ab k;have hLs:=λk=>iF m t ab k;have hb1:∀k,QC m t ab key k=(((t.getD ab.length []).getD k 0==0)&&dX (bQ m t ab k) key):=λk=>rfl;have hb2:∀k i,QD m t ab key k i=((((t.getD ab.length []).getD k 0==1)&&((t.getD i []).getD k 0==0))&&nT (bQ m t ab k) key (ab.getD i [])):=λk i=>rfl;generalize QC m t ab key=b1 at*;generalize QD m t ab key=b2 at*;generalize bQ m t ab=LA at*;generalize ay m t ab (t.getD 0 []).length=ls at*;generalize t.getD ab.length []=row at*;generalize hdo:(t.getD 0 []).length=D at*;simp -dsimp -implicitDefEqProofs only[go_sem];refine aj.up [0,2,3,4,11,12] [8,26,29,55] [] D (λk=>((c_ k).all λk=> !b1 k&&(c_ ab.length).all λi=> !b2 k i)=true) (λk=>[(13,eI k)]) (λ_=>[]) rfl ?_ rfl (λk hkD hI=>?_) (λhI=>?_)
 . simp -dsimp -implicitDefEqProofs only[go_sem]
 . have hkr:k<row.length:=(by omega);have gl:=hgl k hkD;have gr:=get_some hkr;have lk:decide ((k:Int)<(ls.length:Int))=true:=dT (by omega);have hq:=Dg (LA k) key (by have:=hL k;omega) (by have:=hL k;omega) (λx hx=>by have:=hLs k x hx;omega);have hL1:=hL k;have X0:=hLs k;have e1:=hb1 k;have e2:=hb2 k;have no:(!b1 k&&(c_ ab.length).all λi=> !b2 k i)=false->((c_ D).all λk=> !b1 k&&(c_ ab.length).all λi=> !b2 k i)=false:=λh=>b8 hkD h;have yes:(!b1 k&&(c_ ab.length).all λi=> !b2 k i)=true->((c_ (k+1)).all λk=> !b1 k&&(c_ ab.length).all λi=> !b2 k i)=true:=λh=>by rw [bj,hI,h];rfl
   rw[show row.getD k 0=row[k] by simp[uq7,hkr]] at e1 e2;clear hI hb1 hb2 hgl hL hLs;generalize LA k=L at*;generalize row[k]=z at*;generalize ((c_ D).all λk=> !b1 k&&(c_ ab.length).all λi=> !b2 k i)=R at*;generalize ((c_ (k+1)).all λk=> !b1 k&&(c_ ab.length).all λi=> !b2 k i)=R1 at*;generalize b1 k=c1 at*;generalize b2 k=c2 at*;have inner:∀Q0:Prop,True:=λ_=>trivial;rcases hz0:(z==0) with _|_
   . rw [hz0,uq1] at e1;subst e1;simp -dsimp -implicitDefEqProofs only [go_sem,gl,gr,lk,hz0];((with_reducible and_intros);all_goals try omega);refine aj.up [0,2,3,4,7,8,11,12,13,28,29] [55] [] ab.length (λi=>((c_ i).all λi=> !c2 i)=true) (λi=>[(30,eI i)]) (λ_=>[]) rfl ?_ rfl (λi hi hJ=> ?_) (λhJ=> ?_)
     . simp -dsimp -implicitDefEqProofs only[go_sem]
     . have hit:i<t.length:=(by omega);have hki:k<t[i].length:=(by rw [hk i hit];exact hkD);have git:=get_some hit;have gik:=get_some hki;have gci:=get_some hi;have lci:=aE hi;have e3:=e2 i;rw [show (t.getD i []).getD k 0=t[i][k] by simp [uq7,hit,hki],show ab.getD i []=ab[i] by simp [uq7,hi]] at e3;have hcl:=hc _ (uq9 hi);have hq2:=vL L key ab[i] (by omega) (by omega) (by omega) (λx hx=>by have:=X0 x hx;omega);have yes2:c2 i=false->((c_ (i+1)).all λi=> !c2 i)=true:=λh=>by rw [bj,hJ,h];rfl
       have no2:c2 i=true->R=false:=λh=>no (by rw[Bool.not_false,uq3];exact b8 hi (by rw[h];rfl));generalize ((c_ (i+1)).all λi=> !c2 i)=R2 at*;generalize c2 i=c3 at*;clear hJ;generalize ab[i]=cc at*;generalize t[i]=ti at*;generalize ti[k]=y at*;rcases hz1:(z==1) with _|_
       . rw[hz1,uq1,uq1] at e3;simp -dsimp -implicitDefEqProofs only[go_sem,gci,lci,gr,hz1];((with_reducible and_intros);all_goals try first|omega|(refine ⟨?_,?_⟩<;>omega)|exact rfl);all_goals first|exact yes2 e3|skip
       rw[hz1,uq3] at e3;rcases hy:(y==0) with _|_
       . rw[hy,uq1] at e3;simp -dsimp -implicitDefEqProofs only[go_sem,gci,lci,gr,hz1,git,gik,hy];((with_reducible and_intros);all_goals try first|omega|(refine ⟨?_,?_⟩<;>omega)|exact rfl);all_goals first|exact yes2 e3|skip
       rw[hy,uq3] at e3;simp -dsimp -implicitDefEqProofs only[go_sem,gci,lci,gr,hz1,git,gik,hy];((with_reducible and_intros);all_goals try omega);refine aa hq2 ?_;rcases hw:nT L key cc with _|_
       . rw[hw] at e3;simp -dsimp -implicitDefEqProofs only[go_sem];((with_reducible and_intros);all_goals try first|(refine ⟨?_,?_⟩<;>omega)|exact rfl);all_goals first|exact yes2 e3|skip
       rw[hw] at e3;rw[no2 e3];simp -dsimp -implicitDefEqProofs only[go_sem]
     simp -dsimp -implicitDefEqProofs only[go_sem,aA];((with_reducible and_intros);all_goals try first|(refine ⟨?_,?_⟩<;>omega)|exact rfl);all_goals first|exact yes (by rw[Bool.not_false,uq3];exact hJ)|skip
   rw[hz0,uq3] at e1;rcases hop:dX L key with _|_
   . rw [hop] at e1 hq;subst e1;simp -dsimp -implicitDefEqProofs only [go_sem,gl,gr,lk,hz0];((with_reducible and_intros);all_goals try omega);refine aa hq ?_;simp -dsimp -implicitDefEqProofs only [go_sem];refine aj.up [0,2,3,4,7,8,11,12,13,28,29] [55] [] ab.length (λi=>((c_ i).all λi=> !c2 i)=true) (λi=>[(30,eI i)]) (λ_=>[]) rfl ?_ rfl (λi hi hJ=> ?_) (λhJ=> ?_)
     . simp -dsimp -implicitDefEqProofs only[go_sem]
     . have hit:i<t.length:=(by omega);have hki:k<t[i].length:=(by rw [hk i hit];exact hkD);have git:=get_some hit;have gik:=get_some hki;have gci:=get_some hi;have lci:=aE hi;have e3:=e2 i;rw [show (t.getD i []).getD k 0=t[i][k] by simp [uq7,hit,hki],show ab.getD i []=ab[i] by simp [uq7,hi]] at e3;have hcl:=hc _ (uq9 hi);have hq2:=vL L key ab[i] (by omega) (by omega) (by omega) (λx hx=>by have:=X0 x hx;omega);have yes2:c2 i=false->((c_ (i+1)).all λi=> !c2 i)=true:=λh=>by rw [bj,hJ,h];rfl
       have no2:c2 i=true->R=false:=λh=>no (by rw[Bool.not_false,uq3];exact b8 hi (by rw[h];rfl));generalize ((c_ (i+1)).all λi=> !c2 i)=R2 at*;generalize c2 i=c3 at*;clear hJ;generalize ab[i]=cc at*;generalize t[i]=ti at*;generalize ti[k]=y at*;rcases hz1:(z==1) with _|_
       . rw[hz1,uq1,uq1] at e3;simp -dsimp -implicitDefEqProofs only[go_sem,gci,lci,gr,hz1];((with_reducible and_intros);all_goals try first|omega|(refine ⟨?_,?_⟩<;>omega)|exact rfl);all_goals first|exact yes2 e3|skip
       rw[hz1,uq3] at e3;rcases hy:(y==0) with _|_
       . rw[hy,uq1] at e3;simp -dsimp -implicitDefEqProofs only[go_sem,gci,lci,gr,hz1,git,gik,hy];((with_reducible and_intros);all_goals try first|omega|(refine ⟨?_,?_⟩<;>omega)|exact rfl);all_goals first|exact yes2 e3|skip
       rw[hy,uq3] at e3;simp -dsimp -implicitDefEqProofs only[go_sem,gci,lci,gr,hz1,git,gik,hy];((with_reducible and_intros);all_goals try omega);refine aa hq2 ?_;rcases hw:nT L key cc with _|_
       . rw[hw] at e3;simp -dsimp -implicitDefEqProofs only[go_sem];((with_reducible and_intros);all_goals try first|(refine ⟨?_,?_⟩<;>omega)|exact rfl);all_goals first|exact yes2 e3|skip
       rw[hw] at e3;rw[no2 e3];simp -dsimp -implicitDefEqProofs only[go_sem]
     simp -dsimp -implicitDefEqProofs only[go_sem,aA];((with_reducible and_intros);all_goals try first|(refine ⟨?_,?_⟩<;>omega)|exact rfl);all_goals first|exact yes (by rw[Bool.not_false,uq3];exact hJ)|skip
   rw[hop] at e1 hq;subst e1;rw[no rfl];simp -dsimp -implicitDefEqProofs only[go_sem,gl,gr,lk,hz0];((with_reducible and_intros);all_goals try omega);refine aa hq ?_;simp -dsimp -implicitDefEqProofs only[go_sem]
 have lD:decide ((D:Int)<(ls.length:Int))=false:=by rw[hll];simp
 simp -dsimp -implicitDefEqProofs only[go_sem,lD];all_goals first|(rw[hI])|skip
theorem GL (m:aJ)(t ab:lL)(hm:aU m=true)(h0:t.length<=1000)(h1:ab.length<t.length)(hk:∀i (hi:i<t.length),t[i].length=(t.getD 0 []).length)(hd:(t.getD 0 []).length<=1000)
 (hc:∀x∈ab,(x.length:Int)=m.ae/\∀y∈x,0<=y/\y<m.ak):Fn pG 270 [jR m t,aQ ab] false (λr=>r= .cn 280 (oA m t ab)):=by
 refine Fn.Py 17 [.tmp 4] func270 (hv:=?_);have hp:=gB m t ab hm h0 (by omega) (by omega) hk hd hc;have gr:=get_some h1;have er:t[ab.length]=t.getD ab.length []:=by rw[uq7,gr];rfl
 rw[er] at gr;unfold oA;generalize ay m t ab (t.getD 0 []).length=ls at*;generalize t.getD ab.length []=row at*;simp -dsimp -implicitDefEqProofs only[go_sem];refine aj.draw mixed rfl ?_;simp -dsimp -implicitDefEqProofs only[go_sem];refine aH hp (by simp[ax,ao,aq,aF]) ?_;simp -dsimp -implicitDefEqProofs only[go_sem,gr];((with_reducible and_intros);all_goals try first|omega|exact rfl);refine ⟨_,rfl,⟨_,rfl,rfl,λx hx=>?_,by simp,rfl⟩,⟨_,rfl,rfl,λx hx=>?_,by simp,rfl⟩,⟨_,rfl,rfl,λx hx=>?_,by simp,rfl⟩,⟨_,rfl,rfl,λx hx=>?_,by simp,rfl⟩,trivial⟩
 . rw[List.mem_singleton] at hx;subst hx;exact ⟨rfl,rfl⟩
 . rw[List.mem_singleton] at hx;subst hx;exact ⟨rfl,rfl⟩
 . rw[List.mem_singleton] at hx;subst hx;exact ⟨rfl,rfl⟩
 simp only[List.mem_cons,List.not_mem_nil,or_false] at hx;rcases hx with rfl|rfl|rfl|rfl|rfl|rfl<;>exact ⟨rfl,rfl⟩
theorem Na (n:Int):Fn pG 253 [eI n] true (· =eB (bA n 0 4000)):=by refine Fn.au 5 [.tmp 2] func253 (hv:=?_);have hw:=kY n 0 4000;simp -dsimp -implicitDefEqProofs only[go_sem];refine aa hw ?_;simp -dsimp -implicitDefEqProofs only[go_sem]
theorem Dv (m:aJ)(t ab:lL)(hm:aU m=true)(h0:t.length<=1000)(h1:ab.length<=t.length)(h2:0<t.length)(hk:∀i (hi:i<t.length),t[i].length=(t.getD 0 []).length)(hd:(t.getD 0 []).length<=1000)
 (hc:∀x∈ab,(x.length:Int)=m.ae/\∀y∈x,0<=y/\y<m.ak):Fn pG 254 [jR m t,aQ ab] true (· =eB (lW m t ab)):=by
 refine Fn.au 10 [.tmp 4] func254 (hv:=?_);have hp:=nJ m t ab hm h0 h1 h2 hk hd hc;unfold lW;generalize gR m t ab=F at*;simp -dsimp -implicitDefEqProofs only[go_sem];refine av hp (by simp[ax,ao,aq,aF]) ?_;simp -dsimp -implicitDefEqProofs only[go_sem]
theorem GM (m:aJ)(t:lL)(h:t.length<=1048576)(h2:∀x∈t,x.length<=1048576):Fn pG 252 [jR m t,.val (.slice none 0 0)] true (· =eI (if eX m t=true then 0 else 1)):=by
 refine Fn.au 21 [.tmp 4] func252 (hv:=?_);have hs:=vy m t h h2;rcases hb:eX m t with _|_
 . rw[hb] at hs;rw[if_neg (by simp)];simp -dsimp -implicitDefEqProofs only[go_sem];refine aa hs ?_;simp -dsimp -implicitDefEqProofs only[go_sem]
 rw[hb] at hs;rw[if_pos rfl];have hm:=lS hb;have ha:=(tW m [] hm (by simp) (by simp)).Mt (args':=[kj m,.val (.slice none 0 0)]) (.cons (.refl _) (.cons (.nil _) .nil));rw[show (([]:lL).all (fD m))=true from rfl] at ha;have e:decide ((0:Int)>(t.length:Int))=false:=dF (by omega);simp -dsimp -implicitDefEqProofs only[go_sem];refine aa hs ?_;simp -dsimp -implicitDefEqProofs only[go_sem,e];refine aa ha ?_;simp -dsimp -implicitDefEqProofs only[go_sem]
theorem zT (m:aJ)(t:lL)(lim:Int)(h:t.length<=1048576)(h2:∀x∈t,x.length<=1048576):Fn pG 210 [jR m t,.val (.slice none 0 0),eI lim] true (· =eI (k_ m t lim)):=by
 refine Fn.au 21 [.tmp 6] func210 (hv:=?_);have hp:=GM m t h h2;have hl:=Na lim;unfold k_;rcases hb:eX m t with _|_
 . rw[hb,if_neg (by simp)] at hp;rw[if_neg (by simp)];have e:((1:Int) != 0)=true:=rfl;simp -dsimp -implicitDefEqProofs only[go_sem];refine aa hp ?_;simp -dsimp -implicitDefEqProofs only[go_sem,e]
 rw[hb,if_pos rfl] at hp;rw[if_pos rfl];have e:((0:Int) != 0)=false:=rfl;rcases hi:bA lim 0 4000 with _|_
 . rw[hi] at hl;rw[if_neg (by simp)];simp -dsimp -implicitDefEqProofs only[go_sem];refine aa hp ?_;simp -dsimp -implicitDefEqProofs only[go_sem,e];refine aa hl ?_;simp -dsimp -implicitDefEqProofs only[go_sem]
 rw[hi] at hl;rw[if_pos rfl];have hF:M0 m t []:=VQ hb (by simp) (λx hx=>by cases hx);have ho:=(Dv m t [] hF.oE hF.tl hF.le hF.t0 hF.row hF.wd (λx hx=>by cases hx)).Mt (args':=[jR m t,.val (.slice none 0 0)]) (.cons (.refl _) (.cons (.nil _) .nil));rw[show lW m t []=true from rfl] at ho;simp -dsimp -implicitDefEqProofs only[go_sem];refine aa hp ?_;simp -dsimp -implicitDefEqProofs only[go_sem,e];refine aa hl ?_;simp -dsimp -implicitDefEqProofs only[go_sem];refine aa ho ?_;simp -dsimp -implicitDefEqProofs only[go_sem]
def gF (m:aJ)(t:lL)(lim:Nat)(part:lL)(rec:lL->SS->Bool × SS)(st:SS × Bool)(k:lI):(SS × Bool) × Bool:=
 if ((st.1.tries:Int)==(lim:Int))=true then ((⟨st.1.tries,true,st.1.found⟩,false),false)
 else if nU m t part k=true then (((rec (part++[k]) ⟨st.1.tries+1,st.1.stop,st.1.found⟩).2,(rec (part++[k]) ⟨st.1.tries+1,st.1.stop,st.1.found⟩).1),(rec (part++[k]) ⟨st.1.tries+1,st.1.stop,st.1.found⟩).1)
 else ((⟨st.1.tries+1,st.1.stop,st.1.found⟩,st.2),st.2)
def gh (m:aJ)(t:lL)(lim:Nat):Nat->lL->SS->Bool × SS
 |0,part,z=>(false,⟨z.tries,z.stop,z.found++[part]⟩)
 |d+1,part,z=>((bC (gF m t lim part (gh m t lim d)) (z,true) (bx m)).1.2,(bC (gF m t lim part (gh m t lim d)) (z,true) (bx m)).1.1)
theorem GN (m:aJ)(t:lL)(lim d:Nat)(part:lL)(z:SS):gh m t lim (d+1) part z=((bC (gF m t lim part (gh m t lim d)) (z,true) (bx m)).1.2,(bC (gF m t lim part (gh m t lim d)) (z,true) (bx m)).1.1):=rfl
structure Xu (lim:Nat) (z:SS) (r:Bool × SS):Prop where
 tr:r.2.tries<=lim
 same:r.1=true->r.2.found=z.found
 le:r.2.found.length<=z.found.length+1
theorem Ul {m:aJ}{t:lL}{lim:Nat}{part:lL}{rec:lL->SS->Bool × SS}(hr:∀p z,z.tries<=lim->Xu lim z (rec p z))(st:SS × Bool)(k:lI)(h:st.1.tries<=lim):
 (gF m t lim part rec st k).1.1.tries<=lim/\((gF m t lim part rec st k).1.2=true->(gF m t lim part rec st k).1.1.found=st.1.found)/\(gF m t lim part rec st k).1.1.found.length<=st.1.found.length+1/\(gF m t lim part rec st k).2=(gF m t lim part rec st k).1.2:=by
 unfold gF;split
 . exact ⟨h,λ_=>rfl,Nat.le_succ _,rfl⟩
 rename_i hne;have hne:st.1.tries≠lim:=λe=>hne (by rw[e];simp);split
 . have:=hr (part++[k]) ⟨st.1.tries+1,st.1.stop,st.1.found⟩ (by simp only;omega);exact ⟨this.tr,this.same,this.le,rfl⟩
 exact ⟨by simp only;omega,λ_=>rfl,Nat.le_succ _,rfl⟩
theorem Ku {m:aJ}{t:lL}{lim:Nat}{part:lL}{rec:lL->SS->Bool × SS}(hr:∀p z,z.tries<=lim->Xu lim z (rec p z)):∀(ks:lL) (z:SS),z.tries<=lim→
 Xu lim z ((bC (gF m t lim part rec) (z,true) ks).1.2,(bC (gF m t lim part rec) (z,true) ks).1.1)
 | [],z,h=>⟨h,λ_=>rfl,Nat.le_succ _⟩
 |k::ks,z,h=>by
  obtain ⟨g1,g2,g3,g4⟩:=Ul (m:=m) (t:=t) (part:=part) hr (z,true) k h;rw[bC];split
  . rename_i hb;rw[g4] at hb;have e:(gF m t lim part rec (z,true) k).1=((gF m t lim part rec (z,true) k).1.1,true):=Prod.ext rfl hb;have ih:=Ku hr ks (gF m t lim part rec (z,true) k).1.1 g1 (m:=m) (t:=t) (part:=part);rw[e];have hs:=g2 hb;exact ⟨ih.tr,λh=>(ih.same h).trans hs,by have:=ih.le;rw[hs] at this;exact this⟩
  exact ⟨g1,g2,g3⟩
theorem Dw (m:aJ)(t:lL)(lim:Nat):∀(d:Nat) (part:lL) (z:SS),z.tries<=lim->Xu lim z (gh m t lim d part z)
 |0,part,z,h=>⟨h,λh=>(by cases h),by simp[gh]⟩
 |d+1,part,z,h=>Ku (λp z h=>Dw m t lim d p z h) (bx m) z h
theorem zh {m:aJ}{t:lL}{lim:Nat}{part:lL}{recG recF:lL->SS->Bool × SS}(hst:∀k∈bx m,lW m t (part++[k])=nU m t part k)
 (hok:∀p z,z.tries<=lim->Xu lim z (recG p z)) (lx:∀k∈bx m,nU m t part k=true->∀z,z.tries<=lim->z.found=[]->recF (part++[k]) z=(!(recG (part++[k]) z).1,(recG (part++[k]) z).2)):∀(ks:lL)(z:SS),(∀k∈ks,k∈bx m)->z.tries<=lim->z.found=[]→
 DX m t lim part recF ks z=(!(bC (gF m t lim part recG) (z,true) ks).1.2,(bC (gF m t lim part recG) (z,true) ks).1.1)
 | [],z,_,_,_=>rfl
 |k::ks,z,hk,h,hz=>by
  have hka:=hk k (List.mem_cons_self ..);have hks:∀x∈ks,x∈bx m:=λx hx=>hk x (List.mem_cons_of_mem _ hx);rw[DX,bC];by_cases e1:((z.tries:Int)==(lim:Int))=true
  . have eg:gF m t lim part recG (z,true) k=((⟨z.tries,true,z.found⟩,false),false):=(by unfold gF;rw[if_pos e1]);rw[if_pos e1,eg,if_neg (by simp)];rfl
  have hne:z.tries≠lim:=λe=>e1 (by rw[e];simp);rw[if_neg e1,hst k hka];by_cases e2:nU m t part k=true
  . have hr:=lx k hka e2 ⟨z.tries+1,z.stop,z.found⟩ (by simp only;omega) hz;have hg:=hok (part++[k]) ⟨z.tries+1,z.stop,z.found⟩ (by simp only;omega);have eg:gF m t lim part recG (z,true) k=(((recG (part++[k]) ⟨z.tries+1,z.stop,z.found⟩).2,(recG (part++[k]) ⟨z.tries+1,z.stop,z.found⟩).1),(recG (part++[k]) ⟨z.tries+1,z.stop,z.found⟩).1):=by
     unfold gF;rw[if_neg e1,if_pos e2]
    rw[if_pos e2,eg,hr];generalize recG (part++[k]) ⟨z.tries+1,z.stop,z.found⟩=w at*;obtain ⟨b,z1⟩:=w;cases b with
    |true=>
     have hf:z1.found=[]:=(hg.same rfl).trans hz;have:=zh hst hok lx ks z1 hks hg.tr hf;simpa using this
    |false=>simp
  have eg:gF m t lim part recG (z,true) k=((⟨z.tries+1,z.stop,z.found⟩,true),true):=by unfold gF;rw[if_neg e1,if_neg e2]
  rw[if_neg e2,eg,if_pos rfl];exact zh hst hok lx ks _ hks (by simp only;omega) hz
theorem Ct {m:aJ}{t:lL}{lim:Nat}(hm:aU m=true):∀(d:Nat) (part:lL) (z:SS),(∀k∈part,k∈bx m)->lW m t part=true->z.tries<=lim->z.found=[]→
 dQ m t lim d part z=(!(gh m t lim d part z).1,(gh m t lim d part z).2)
 |0,part,z,_,_,_,hz=>by simp[dQ,gh,hz]
 |d+1,part,z,hp,ho,h,hz=>by
  have hn:=aI hm;have hpk:∀x∈part,(x.length:Int)=m.ae/\∀y∈x,0<=y/\y<m.ak:=λx hx=>by have:=kq (m:=m) (by omega) (hp x hx);exact ⟨this.len,this.el⟩
  rw[dQ,GN];refine zh (λk _=>zf m t part k ho hpk) (λp z h=>Dw m t lim d p z h) (λk hk hs z hz1 hz2=>?_) (bx m) z (λ_ h=>h) h hz;refine Ct hm d (part++[k]) z (λx hx=>?_) (by rw[zf m t part k ho hpk];exact hs) hz1 hz2;rcases List.mem_append.1 hx with hx|hx
  . exact hp x hx
  rw[List.mem_singleton] at hx;subst hx;exact hk
end Go.Vc
