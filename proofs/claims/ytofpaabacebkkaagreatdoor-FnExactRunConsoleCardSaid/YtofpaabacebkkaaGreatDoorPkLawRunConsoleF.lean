import Derived.WalkKit
import Derived.OwnWalkIn
import Derived.TacticsInMore
import Derived.RegionIn
import Derived.LoopNIn
import Derived.LoopIn
import Derived.Shelf.Abstract
import Derived.Test.YtofpaabacebkkaaGreatDoorPkLawRunConsoleE
open Go.Proofs.Tryz
open Go.Proofs.Tryz renaming prog → pG
set_option linter.unusedVariables false
set_option linter.unusedSimpArgs false
set_option linter.unnecessarySimpa false
set_option maxRecDepth 1000000
set_option maxHeartbeats 16000000
open Bool renaming and_eq_true->uq0,false_and->uq1,false_eq_true->uq2,true_and->uq3
open List renaming all_eq_true->uq4,drop_succ_cons->uq5,drop_zero->uq6,getD_eq_getElem?_getD->uq7,getElem?_eq_getElem->uq8,getElem_mem->uq9,length_append->cK,length_cons->dB,length_map->dt,length_nil->bu,length_range->cF,map->bf,map_append->cj,map_cons->c7,map_nil->eP,map_singleton->iH,mem_of_mem_take->cq,range->bO,replicate->c8,take->aW,take_length->bd,take_of_length_le->aP,take_succ_cons->aO,take_succ_eq_append_getElem->du,take_zero->cS
open Nat renaming le_refl->fH,not_lt_zero->gW,reduceAdd->bh,reduceBEq->cG,reduceDiv->cH,reduceEqDiff->bK
open Option renaming isNone_none->GF,isNone_some->GG,toList_none->Dj,toList_some->Dl
namespace Go.Vc
open Go.Proofs Go.Lib
theorem te (xs:List lU) (sep:lU) (n:Nat) (h:∀x∈xs,x.length<=n):(Lib.join xs sep).length<=xs.length*(n+sep.length):=by
 cases xs with
 |nil=>simp [join_nil]
 |cons x r=>
  rw [join_length];have hl:∀(l:List lU),(∀x∈l,x.length<=n)->lens l<=l.length*n:=by
   intro l;induction l with
   |nil=>intro _;simp [lens]
   |cons y t ih=>
    intro h;have h1:=h y (List.mem_cons_self ..);have h2:=ih fun z hz=>h z (List.mem_cons_of_mem _ hz);simp only [lens,c7,List.sum_cons,dB] at h2 ⊢;rw [Nat.add_mul];omega
  have:=hl (x::r) h;simp only [dB] at this ⊢;rw [Nat.mul_add,Nat.mul_comm sep.length r.length,Nat.add_mul r.length 1 sep.length];generalize (r.length+1)*n=p at*;generalize r.length*sep.length=q at*;omega
theorem qJ (xs:List lU) (y sep:lU):Lib.join (xs++[y]) sep=if xs=[] then y else Lib.join xs sep++(sep++y):=by
 cases xs with
 |nil=>simp [join_one]
 |cons x r=>
  rw [if_neg (by simp),List.cons_append,join_cons,join_cons];simp [joinTail]
theorem BG {xs:lI} (hx:∀x∈xs,km x) (sep:lU) (hs:sep.length<=10) (h:xs.length<=1048576):(Lib.join (xs.map itoa) sep).length<=32505856:=by
 have h1:=te (xs.map itoa) sep 21 (by
  intro y hy;obtain ⟨x,hxm,rfl⟩:=List.mem_map.1 hy
  exact cO (hx x hxm))
 rw [dt] at h1;have h2:xs.length*(21+sep.length)<=1048576*31:=Nat.mul_le_mul h (by omega);omega
theorem tf (sep:lU) (hs:sep.length<=10) (xs:lI) (h:xs.length<=1048576) (hx:∀x∈xs,km x):Fn pG 165 [aQ xs,eS sep] true (· =eS (Lib.join (xs.map itoa) sep)):=by
 refine Fn.au 24 [.tmp 4] func165 (hv:= ?_);simp -dsimp -implicitDefEqProofs only [go_sem];refine aj.up [1,9,10] [17,18,19] [8] xs.length (fun _=>True) (fun i=>[(5,.ref 8 0 0 i),(11,eI i)]) (fun i=>[(8,.row 0 ⟨1,false⟩ true (((xs.take i).map itoa).map eS))]) trivial ?_ rfl (fun i hi _=> ?_) (fun _=> ?_)
 . simp -dsimp -implicitDefEqProofs only [go_sem]
 . have gi:=get_some hi;have h64:=hx xs[i] (uq9 hi);have htk:xs.take (i+1)=xs.take i++[xs[i]]:=du hi;rw [htk];generalize xs[i]=x at*;simp -dsimp -implicitDefEqProofs only [pz,cG,cH,bh,↓reduceIte,bK];simp -dsimp -implicitDefEqProofs only [go_sem,aE hi,gi];with_reducible and_intros
   all_goals try (omega)
   refine aa (kV h64) ?_;simp -dsimp -implicitDefEqProofs only [go_sem];with_reducible and_intros
   all_goals (first|omega|(refine ⟨?_,?_⟩<;>omega)|exact rfl|(simp;done)|skip)
 have hj:=BG hx sep hs h;simp -dsimp -implicitDefEqProofs only [pz,cG,cH,bh,↓reduceIte,bK];simp -dsimp -implicitDefEqProofs only [go_sem,aA,bd];have e:aW xs.length (bf eS (bf itoa xs))=bf eS (bf itoa xs):=aP (by simp);simp only [e];refine aa (Pw (xs.map itoa) sep (by simp;omega) (by omega)) ?_;simp -dsimp -implicitDefEqProofs only [go_sem]
def yu (l:lI):lU:=if l=[] then [45] else Lib.join (l.map itoa) [44]
theorem zj (l:lI) (h:l.length<=100) (hx:∀x∈l,0<=x/\x<=1000000000000):Fn pG 170 [aQ l] true (· =eB true):=by
 refine Fn.au 10 [.tmp 2] func170 (hv:= ?_);have hc:=oO l 0 1000000000000 (by omega);have e:(l.all fun x=>bB x 0 1000000000000)=true:=uq4.2 fun x hm=>by have:=hx x hm;simp [bB];omega
 rw [e] at hc;have h1:decide ((l.length:Int)<=100)=true:=dT (by omega);simp -dsimp -implicitDefEqProofs only [go_sem,h1];refine aa hc ?_;simp -dsimp -implicitDefEqProofs only [go_sem]
theorem Iy (l:lI) (h:l.length<=100) (hx:∀x∈l,0<=x/\x<=1000000000000):Fn pG 122 [aQ l] true (· = .aX [eS (yu l),eI 0]):=by
 refine Fn.au 12 [.tmp 2,.tmp 3] func122 (hv:= ?_);have hc:=zj l h hx;have hj:=tf [44] (by simp) l (by omega) (fun x hm=>by have:=hx x hm;unfold km;omega);simp -dsimp -implicitDefEqProofs only [go_sem];refine aa hc ?_;unfold yu;cases l with
 |nil=>
  have e:((([]:lI).length:Int)==0)=true:=rfl;simp -dsimp -implicitDefEqProofs only [go_sem]
 |cons a r=>
  have e:(((a::r).length:Int)==0)=false:=by rw [beq_eq_false_iff_ne];simp;omega
  rw [if_neg (by simp)];generalize (a::r)=l at*;simp -dsimp -implicitDefEqProofs only [go_sem,e];refine aa hj ?_;simp -dsimp -implicitDefEqProofs only [go_sem]
theorem Mn (l:lI) (h:l.length<=100) (hx:∀x∈l,0<=x/\x<=1000000000000):Fn pG 105 [aQ l] true (· =eS (yu l)):=by
 refine Fn.au 26 [.tmp 2] func105 (hv:= ?_);by_cases h0:l=[]
 . subst h0;have e:((([]:lI).length:Int)==0)=true:=rfl;simp -dsimp -implicitDefEqProofs only [go_sem];all_goals (first|exact rfl|skip)
 have hl0:0<l.length:=List.length_pos_iff.2 h0;have e:((l.length:Int)==0)=false:=by rw [beq_eq_false_iff_ne];omega
 have hlen:∀i,(Lib.join ((l.take i).map itoa) [44]).length<=32505856:=fun i=>BG (fun x hm=>by have:=hx x (cq hm);unfold km;omega) [44] (by simp) (by simp;omega);rw [yu,if_neg h0];simp -dsimp -implicitDefEqProofs only [go_sem,e];refine aj.up [0] [10,23] [] l.length (fun _=>True) (fun i=>[(3,eS (Lib.join ((l.take i).map itoa) [44])),(4,eI i)]) (fun _=>[]) trivial ?_ rfl (fun i hi _=> ?_) (fun _=> ?_)
 . simp -dsimp -implicitDefEqProofs only [go_sem];exact rfl
 . have gi:=get_some hi;have hd:=fg l[i] (by have:=hx _ (uq9 hi);omega);have hil:=cO (v:=l[i]) (by have:=hx _ (uq9 hi);unfold km;omega);have hln:=hlen i;have hT:Lib.join ((l.take (i+1)).map itoa) [44]=if i=0 then itoa l[i] else Lib.join ((l.take i).map itoa) [44]++([44]++itoa l[i]):=by
    rw [du hi,cj,iH,qJ];by_cases hz:i=0
    . subst hz;simp
    rw [if_neg hz,if_neg];intro e2;have:=congrArg List.length e2;rw [dt,List.length_take,bu] at this;omega
   rw [hT];clear hT;generalize l[i]=x at*;rcases Nat.eq_zero_or_pos i with rfl|hp
   . have d0:decide ((0:Int)>0)=false:=rfl;have dl:decide ((0:Int)<(l.length:Int))=true:=dT (by omega);rw [if_pos rfl];have ez:Lib.join ((l.take 0).map itoa) [44]=[]:=by rw [cS];rfl
     rw [ez];simp -dsimp -implicitDefEqProofs only [pz,bh,↓reduceIte,bK];simp -dsimp -implicitDefEqProofs only [go_sem,dl,gi,d0];((with_reducible and_intros);all_goals try (omega));refine aa hd ?_;simp -dsimp -implicitDefEqProofs only [go_sem];((with_reducible and_intros);all_goals try first|omega|(refine ⟨?_,?_⟩<;>omega)|exact rfl)
   have d0:decide ((i:Int)>0)=true:=dT (by omega);rw [if_neg (by omega)];generalize Lib.join ((l.take i).map itoa) [44]=o at*;simp -dsimp -implicitDefEqProofs only [pz,↓reduceIte,bK];simp -dsimp -implicitDefEqProofs only [go_sem,aE hi,gi,d0];((with_reducible and_intros);all_goals try (omega));refine aa hd ?_;simp -dsimp -implicitDefEqProofs only [go_sem];((with_reducible and_intros);all_goals try first|omega|(refine ⟨?_,?_⟩<;>omega)|exact rfl);all_goals first|(simp;done)|skip
 simp -dsimp -implicitDefEqProofs only [pz,↓reduceIte,bK];simp -dsimp -implicitDefEqProofs only [go_sem,aA,bd]
def PS (x:Int):UInt8:=UInt8.ofNat (48+x.toNat)
def oX (c:lI):lU:=c.map PS
theorem PT {x:Int} (h:0<=x/\x<=9):((PS x).toNat:Int)=48+x:=by unfold PS;rw [UInt8.toNat_ofNat'];omega
theorem PU {x:Int} (h:0<=x/\x<=9):itoa x=[PS x]:=by rw [e7 h.1,JO (by omega)];rfl
theorem Mo:∀(c:lI),(∀x∈c,0<=x/\x<=9)->Lib.join (c.map itoa) []=oX c:=by
 intro c hc;have hf:∀(c:lI),(∀x∈c,0<=x/\x<=9)->(c.map itoa).flatten=oX c:=by
  intro c;induction c with
  |nil=>intro _;rfl
  |cons x r ih=>
   intro h;rw [c7,List.flatten_cons,PU (h x (List.mem_cons_self ..)),ih fun y hy=>h y (List.mem_cons_of_mem _ hy)];rfl
 rw [←hf c hc];cases c with
 |nil=>rfl
 |cons x r=>
  rw [c7,join_cons,joinTail,List.flatten_cons];congr 2;simp
theorem Mp (c:lI) (h:c.length<=1048576) (hx:∀x∈c,0<=x/\x<=9):Fn pG 66 [aQ c] true (· =eS (oX c)):=by
 refine Fn.au 23 [.tmp 2] func66 (hv:= ?_);simp -dsimp -implicitDefEqProofs only [go_sem];refine aj.up [0] [8,19,20] [5] c.length (fun _=>True) (fun i=>[(3,.ref 5 0 0 i),(4,eI i)]) (fun i=>[(5,.row 0 ⟨1,false⟩ true ((oX (c.take i)).map eY))]) trivial ?_ rfl (fun i hi _=> ?_) (fun _=> ?_)
 . simp -dsimp -implicitDefEqProofs only [go_sem];all_goals first|rfl|skip
 . have gi:=get_some hi;have hb:=hx c[i] (uq9 hi);have htk:oX (c.take (i+1))=oX (c.take i)++[PS c[i]]:=by
    rw [du hi,oX,cj];rfl
   have hln:(oX (c.take i)).length=i:=by simp [oX];omega
   rw [htk,cj,iH];clear htk;generalize oX (c.take i)=K at*;generalize c[i]=x at*;have hw:IntKind.u8.wrap (48+x)=48+x:=nC (by omega);have hd:=PT hb;have tK:aW i (K.map eY)=K.map eY:=aP (by simp [hln]);simp -dsimp -implicitDefEqProofs only [pz,cG,cH,bh,↓reduceIte,bK];simp -dsimp -implicitDefEqProofs only [go_sem,aE hi,gi,hw,tK];((with_reducible and_intros);all_goals try first|omega|(refine ⟨?_,?_⟩<;>omega)|exact rfl);all_goals first|(simp;omega)|skip
 have hln:(oX c).length=c.length:=by simp [oX]
 rw [bd];have tK:aW c.length ((oX c).map eY)=(oX c).map eY:=aP (by simp [hln]);simp -dsimp -implicitDefEqProofs only [pz,cG,cH,bh,↓reduceIte,bK];simp -dsimp -implicitDefEqProofs only [go_sem,aA,tK];(all_goals try (omega))
def W5 (m:aK) (c:lI):lU × Int:=if aY m=true then if fault m c=0 then (oX c,0) else ([],2) else ([],1)
theorem BH {m:aK} (hm:aY m=true) {c:lI} (h:fault m c=0):∀x∈c,0<=x/\x<=9:=by have hk:=qc.PD h;have hn:=aM hm;intro x hx;have:=hk.el x hx;omega
theorem Mq (m:aK) (c:lI) (h:c.length<=1048576):Fn pG 124 [la m,aQ c] true (· = .aX [eS (W5 m c).1,eI (W5 m c).2]):=by
 refine Fn.au 16 [.tmp 4,.tmp 5] func124 (hv:= ?_);have hc:=uU m c h;unfold W5;by_cases hm:aY m=true
 . rw [if_pos hm] at hc ⊢;by_cases hf:fault m c=0
   . rw [if_pos hf] at hc ⊢;have hd:=BH hm hf;have hj:=tf [] (by simp) c h (fun x hx=>by have:=hd x hx;unfold km;omega);rw [Mo c hd] at hj;have e:((0:Int) != 0)=false:=rfl;simp -dsimp -implicitDefEqProofs only [go_sem];refine aa hc ?_;simp -dsimp -implicitDefEqProofs only [go_sem,e];refine aa hj ?_;simp -dsimp -implicitDefEqProofs only [go_sem]
   rw [if_neg hf] at hc ⊢;have e:((2:Int) != 0)=true:=rfl;simp -dsimp -implicitDefEqProofs only [go_sem];refine aa hc ?_;simp -dsimp -implicitDefEqProofs only [go_sem,e]
 rw [if_neg hm] at hc ⊢;have e:((1:Int) != 0)=true:=rfl;simp -dsimp -implicitDefEqProofs only [go_sem];refine aa hc ?_;simp -dsimp -implicitDefEqProofs only [go_sem,e]
def bw (s:lU):lI:=s.map fun b=>(b.toNat:Int)-48
def j6 (m:aK) (s:lU):lI × Int:=if aY m=true then if fault m (bw s)=0 then (bw s,0) else ([],6) else ([],1)
theorem c6 (s:lU):(bw s).length=s.length:=by simp [bw]
theorem Iz {m:aK} (hm:aY m=true) {s:lU} (h:fault m (bw s)=0):s.all dO=true:=by have hd:=BH hm h;rw [uq4];intro b hb;have:=hd _ (List.mem_map_of_mem (f:=fun b:UInt8=>(b.toNat:Int)-48) hb);simp [dO];omega
theorem Mr (m:aK) (hm:aY m=true) (s:lU) (h:s.length<=1048576):Fn pG 167 [la m,eS s] true (· = .aX [aQ (bw s),eB (fB m (bw s))]):=by
 refine Fn.au 27 [.tmp 4,.tmp 5] func167 (hv:= ?_);have hk:=CQ m (bw s) hm (by rw [c6];exact h);simp -dsimp -implicitDefEqProofs only [go_sem];refine aj.up [1,2,10] [20,21] [8] s.length (fun _=>True) (fun i=>[(6,.ref 8 0 0 i),(11,eI i)]) (fun i=>[(8,.row 0 ⟨1,false⟩ true ((bw (s.take i)).map eI))]) trivial ?_ rfl (fun i hi _=> ?_) (fun _=> ?_)
 . simp -dsimp -implicitDefEqProofs only [go_sem];all_goals first|rfl|skip
 . have hg:(s.getD i 0)=s[i]:=by rw [uq7,uq8 hi];rfl
   have hb:=(s[i]).toNat_lt;have htk:bw (s.take (i+1))=bw (s.take i)++[(s[i].toNat:Int)-48]:=by rw [du hi,bw,cj];rfl
   have hln:(bw (s.take i)).length=i:=by rw [c6,List.length_take];omega
   rw [htk,cj,iH];clear htk;generalize bw (s.take i)=K at*;generalize s[i]=b at*;have tK:aW i (K.map eI)=K.map eI:=aP (by simp [hln]);simp -dsimp -implicitDefEqProofs only [pz,cG,cH,bh,↓reduceIte,bK];simp -dsimp -implicitDefEqProofs only [go_sem,aE hi,hg,tK];((with_reducible and_intros);all_goals try first|omega|(refine ⟨?_,?_⟩<;>omega)|exact rfl)
 rw [bd];have hln:=c6 s;have tK:aW s.length ((bw s).map eI)=(bw s).map eI:=aP (by simp [hln]);simp -dsimp -implicitDefEqProofs only [pz,cG,cH,bh,↓reduceIte,bK];simp -dsimp -implicitDefEqProofs only [go_sem,aA,tK];((with_reducible and_intros);all_goals try (omega));refine aa hk ?_;simp -dsimp -implicitDefEqProofs only [go_sem,tK];((with_reducible and_intros);all_goals try (omega));all_goals first|(simp;done)|skip
theorem yv (m:aK) (s:lU) (h:s.length<=1048576):Fn pG 120 [la m,eS s] true (· = .aX [aQ (j6 m s).1,eI (j6 m s).2]):=by
 refine Fn.au 20 [.tmp 4,.tmp 5] func120 (hv:= ?_);unfold j6;rcases hm:aY m with _|_
 . have hi:=eJ m;rw [hm] at hi;rw [if_neg (by simp)];simp -dsimp -implicitDefEqProofs only [go_sem];refine aa hi ?_;simp -dsimp -implicitDefEqProofs only [go_sem]
 have hi:=eJ m;rw [hm] at hi;have hr:=Mr m hm s h;have hln:=c6 s;rw [if_pos rfl];simp -dsimp -implicitDefEqProofs only [go_sem];refine aa hi ?_;simp -dsimp -implicitDefEqProofs only [go_sem];refine aa hr ?_;by_cases hf:fault m (bw s)=0
 . have e:fB m (bw s)=true:=beq_iff_eq.2 hf;rw [if_pos hf];simp -dsimp -implicitDefEqProofs only [go_sem,e];all_goals first|(simp;done)|skip
 have e:fB m (bw s)=false:=beq_eq_false_iff_ne.2 hf;rw [if_neg hf];simp -dsimp -implicitDefEqProofs only [go_sem,e]
theorem BJ (s:lU) (h:s.length<=1048576):Fn pG 135 [eS s] true (· = .aX [aQ (if s.all dO=true then bw s else []),eB (s.all dO)]):=by
 refine Fn.au 32 [.tmp 2,.tmp 3] func135 (hv:= ?_);simp -dsimp -implicitDefEqProofs only [go_sem];refine aj.up [0] [9,29,30] [6] s.length (fun i=>(s.take i).all dO=true) (fun i=>[(4,.ref 6 0 0 i),(5,eI i)]) (fun i=>[(6,.row 0 ⟨1,false⟩ true ((bw (s.take i)).map eI))]) rfl ?_ rfl (fun i hi hI=> ?_) (fun hI=> ?_)
 . simp -dsimp -implicitDefEqProofs only [go_sem];all_goals first|rfl|skip
 . have hg:(s.getD i 0)=s[i]:=by rw [uq7,uq8 hi];rfl
   have hb:=(s[i]).toNat_lt;have cR:=dw dO s i hi;have hno:=fun h=>gL (p:=dO) hi h;have hd:=Is s[i];have htk:bw (s.take (i+1))=bw (s.take i)++[(s[i].toNat:Int)-48]:=by rw [du hi,bw,cj];rfl
   have hln:(bw (s.take i)).length=i:=by rw [c6,List.length_take];omega
   rw [htk,cj,iH];clear htk;generalize bw (s.take i)=K at*;have tK:aW i (K.map eI)=K.map eI:=aP (by simp [hln]);generalize s[i]=b at*;rcases d1:decide ((b.toNat:Int)<48) with _|_
   . rcases d2:decide ((b.toNat:Int)>57) with _|_
     . have e1:=of_decide_eq_false d1;have hw:IntKind.u8.wrap ((b.toNat:Int)-48)=(b.toNat:Int)-48:=nC (by have:=of_decide_eq_false d2;omega);simp -dsimp -implicitDefEqProofs only [pz,cG,cH,bh,↓reduceIte,bK];simp -dsimp -implicitDefEqProofs only [go_sem,aE hi,hg,d1,d2,hw,tK];((with_reducible and_intros);all_goals try first|omega|(refine ⟨?_,?_⟩<;>omega)|exact rfl);all_goals first|(rw [cR,hI];show dO b=true;rw [dO,hd,d1,d2];rfl)|skip
     have hz:=hno (by rw [dO,hd,d1,d2];rfl);rw [hz,if_neg (by simp)];simp -dsimp -implicitDefEqProofs only [pz,cG,cH,bh,↓reduceIte,bK];simp -dsimp -implicitDefEqProofs only [go_sem,aE hi,hg,d1,d2];((with_reducible and_intros);all_goals try (omega))
   have hz:=hno (by rw [dO,hd,d1];rfl);rw [hz,if_neg (by simp)];simp -dsimp -implicitDefEqProofs only [pz,cG,cH,bh,↓reduceIte,bK];simp -dsimp -implicitDefEqProofs only [go_sem,aE hi,hg,d1];((with_reducible and_intros);all_goals try (omega))
 rw [bd] at hI ⊢;rw [hI,if_pos rfl];have hln:=c6 s;have tK:aW s.length ((bw s).map eI)=(bw s).map eI:=aP (by simp [hln]);simp -dsimp -implicitDefEqProofs only [pz,cG,cH,bh,↓reduceIte,bK];simp -dsimp -implicitDefEqProofs only [go_sem,aA,tK];((with_reducible and_intros);all_goals try (omega));all_goals first|(simp;done)|skip
theorem yw (m:aK) (s:lU) (h:s.length<=1048576):Fn pG 103 [la m,eS s] true (· = .aX [aQ (j6 m s).1,eI (j6 m s).2]):=by
 refine Fn.au 25 [.tmp 4,.tmp 5] func103 (hv:= ?_);unfold j6;have hi:=fA m;rcases hm:aY m with _|_
 . rw [hm] at hi;rw [if_neg (by simp)];simp -dsimp -implicitDefEqProofs only [go_sem];refine aa hi ?_;simp -dsimp -implicitDefEqProofs only [go_sem]
 rw [hm] at hi;have hr:=BJ s h;have hln:=c6 s;have hft:=nr m (bw s) hm (by omega);rw [if_pos rfl];rcases hd:s.all dO with _|_
 . rw [hd,if_neg (by simp)] at hr;have hf:¬fault m (bw s)=0:=fun e=>by rw [Iz hm e] at hd;cases hd
   rw [if_neg hf];simp -dsimp -implicitDefEqProofs only [go_sem];refine aa hi ?_;simp -dsimp -implicitDefEqProofs only [go_sem];refine aa hr ?_;simp -dsimp -implicitDefEqProofs only [go_sem]
 rw [hd,if_pos rfl] at hr;have tK:aW (bw s).length ((bw s).map eI)=(bw s).map eI:=aP (by simp);by_cases hf:fault m (bw s)=0
 . have e:((0:Int) != 0)=false:=rfl;rw [hf] at hft;rw [if_pos hf];simp -dsimp -implicitDefEqProofs only [go_sem];refine aa hi ?_;simp -dsimp -implicitDefEqProofs only [go_sem];refine aa hr ?_;simp -dsimp -implicitDefEqProofs only [go_sem,tK];refine aa hft ?_;simp -dsimp -implicitDefEqProofs only [go_sem,e,tK];all_goals first|(simp;done)|skip
 have e:(fault m (bw s) != 0)=true:=bne_iff_ne.2 hf;rw [if_neg hf];simp -dsimp -implicitDefEqProofs only [go_sem];refine aa hi ?_;simp -dsimp -implicitDefEqProofs only [go_sem];refine aa hr ?_;simp -dsimp -implicitDefEqProofs only [go_sem,tK];refine aa hft ?_;simp -dsimp -implicitDefEqProofs only [go_sem,e]
structure Zw (m:aK):Prop where
 c:0<=m.af/\m.af<=7
 d:0<=m.ao/\m.ao<=9
 s:0<=m.step/\m.step<=9
 a:0<=m.same/\m.same<=9
 l:0<=m.least/\m.least<=9
structure Zx where
 ab:lI
 at':Int
 src:Src
theorem Ms (xs ys:lI) (h:xs.length<=9223372036854775807):Fn pG 243 [aQ xs,aQ ys] true (· =eB (decide (xs=ys))):=by
 refine Fn.au 26 [.tmp 4] func243 (hv:= ?_);simp -dsimp -implicitDefEqProofs only [go_sem];repeat' (refine Br.intro (fun _=> ?_) (fun _=> ?_)<;>try simp -dsimp -implicitDefEqProofs only [go_sem, *])
 . rw [decide_eq_false];intro e;subst e;simp_all
 have h1:xs.length=ys.length:=by simp_all<;>omega
 refine aj.up [0,1] [13] [] xs.length (fun i=>xs.take i=ys.take i) (fun i=>[(5,eI i)]) (fun _=>[]) rfl ?_ rfl (fun i hi hI=> ?_) (fun hI=> ?_)
 . simp -dsimp -implicitDefEqProofs only [go_sem]
 . simp -dsimp -implicitDefEqProofs only [pz,↓reduceIte,bK];have hy:i<ys.length:=by omega
   have no:xs[i]≠ys[i]->decide (xs=ys)=false:=T0 hi hy;have yes:xs[i]=ys[i]->xs.take (i+1)=ys.take (i+1):=Pl hi hy hI;simp -dsimp -implicitDefEqProofs only [go_sem,aE hi];refine aj.draw mixed rfl ?_;simp -dsimp -implicitDefEqProofs only [go_sem,get_some hi,get_some hy]
   repeat' first
    |(refine Br.intro (fun _=> ?_) (fun _=> ?_)<;>try simp -dsimp -implicitDefEqProofs only [go_sem, *])
    |(with_reducible refine ai ?_ ?_)
    |fail
   all_goals first
    |omega
    |(refine ⟨?_,?_⟩<;>omega)
    |rfl
    |(rw [no];clear no yes;simp_all;done)
    |(refine yes ?_;clear no yes;simp_all;done)
 simp -dsimp -implicitDefEqProofs only [pz,↓reduceIte,bK];simp -dsimp -implicitDefEqProofs only [go_sem,aA];have h3:xs=ys:=by rw [←bd (l:=xs),hI,h1,bd]
 simp [h3]
structure BS where
 ps:lI
 ds:List Bool
 gs:lI
 src:Src
def YW (ps:lI):Prop:=∀i,i<ps.length-> -1<=ps.getD i 0/\ps.getD i 0<i/\(0<i->0<=ps.getD i 0)
structure YX (z:BS) (j:Nat):Prop where
 src:PQ z.src
 lp:z.ps.length=j+1
 ld:z.ds.length=j+1
 lg:1<=z.gs.length/\z.gs.length<=j+1
 gs:∀g∈z.gs,0<=g/\g<=j
 ps:YW z.ps
def W6 (ps:lI):Nat->Int->Int->Bool
 |0,_,_=>false
 |k+1,node,other=>if node<0 then false else if (node==other)=true then true else W6 ps k (ps.getD node.toNat 0) other
def Vv (ps:lI) (ds:List Bool) (node:Int):lI:=vt (fun i=>ds.getD i false&&W6 ps ps.length (i:Int) node) ds.length
structure W7 where
 ps:lI
 ds:List Bool
 IA:lL
structure Yh (p:W7):Prop where
 lp:p.ps.length<=10
 ld:p.ds.length=p.ps.length
 lr:1<=p.IA.length/\p.IA.length<=4
 rs:∀x∈p.IA,x.length<=11
 ps:YW p.ps
 some:1<=(Vv p.ps p.ds 0).length
structure YY (m:aK) (t:lL) (s:Src):Prop where
 src:PQ s
 ko:aY m=true
 lt:1<=t.length/\t.length<=4
 lr:1<=(t.getD 0 []).length/\(t.getD 0 []).length<=4
 rs:∀i (hi:i<t.length),t[i].length=(t.getD 0 []).length
structure Zh where
 m:aK
 t:lL
 ab:lL
 src:Src
structure YZ (z:Zh):Prop where
 src:PQ z.src
 lt:z.t.length<=11
 lr:∀x∈z.t,x.length<=13
 lc:z.ab.length<=10
 lk:∀x∈z.ab,x.length<=8
theorem FO (m:aK) (t:lL) (lim:Nat):(∃(f:lL) (tr:Nat),lK m t lim= .aX [aR f,eI tr,eI 0]/\f.length<=t.length/\∀k∈f,k∈bx m)\/∃c:Int,(c==0)=false/\lK m t lim= .aX [.val (.slice none 0 0),eI 0,eI c]:=by
 unfold lK;by_cases h:kU m t lim=0
 . rw [if_pos h];have hok:=kT (m:=m) (t:=t) (lim:=lim) t.length [] ⟨0,false,[]⟩ (fun k h=>by cases h) (Nat.zero_le _) rfl;generalize dN m t lim t.length [] ⟨0,false,[]⟩=F at*;obtain ⟨b,tr,st,fd⟩:=F;obtain ⟨g1,g2,g3,g4⟩:=hok;simp only at g1 g2 g3 g4 ⊢;cases fd with
   |nil=>exact .inr ⟨if st=true then 3 else 4,by cases st<;>rfl,by cases st<;>rfl⟩
   |cons f r=>
    have:=g4 f (List.mem_cons_self ..);exact .inl ⟨f,tr,rfl,by have:=this.1;simp at this;omega,this.2⟩
 rw [if_neg h];exact .inr ⟨_,by simpa using h,rfl⟩
def nS (s:lU):lU:=if s.drop (s.length-1)=[10] then s.take (s.length-1) else s
theorem FP (s:lU) (h:s.length<=1048576):Fn pG 111 [eS s,eS [10]] true (· =eB (decide (s.drop (s.length-1)=[10]))):=by
 refine Fn.au 21 [.tmp 4] func111 (hv:= ?_);by_cases h0:s=[]
 . subst h0;have d0:decide ((0:Int)≥((1:Nat):Int))=false:=rfl;simp -dsimp -implicitDefEqProofs only [go_sem,d0];(all_goals try (exact rfl))
 have hl:=List.length_pos_iff.2 h0;have d0:decide ((s.length:Int)≥((1:Nat):Int))=true:=dT (by omega);have e1:((s.length:Int)-((1:Nat):Int)).toNat=s.length-1:=by omega
 simp -dsimp -implicitDefEqProofs only [go_sem,d0,e1];((with_reducible and_intros);all_goals try first|omega|(refine ⟨?_,?_⟩<;>omega))
theorem zk (s:lU) (h:s.length<=1048576):Fn pG 82 [eS s,eS [10]] true (· =eS (nS s)):=by
 refine Fn.au 16 [.tmp 4] func82 (hv:= ?_);have hc:=FP s h;unfold nS;by_cases hs:s.drop (s.length-1)=[10]
 . rw [decide_eq_true hs] at hc;rw [if_pos hs];have hl:0<s.length:=by
    have:=congrArg List.length hs;rw [List.length_drop,List.length_singleton] at this;omega
   have e1:((s.length:Int)-((1:Nat):Int)).toNat=s.length-1:=by omega
   simp -dsimp -implicitDefEqProofs only [go_sem];refine aa hc ?_;simp -dsimp -implicitDefEqProofs only [go_sem,e1];((with_reducible and_intros);all_goals try first|omega|(refine ⟨?_,?_⟩<;>omega))
 rw [decide_eq_false hs] at hc;rw [if_neg hs];simp -dsimp -implicitDefEqProofs only [go_sem];refine aa hc ?_;simp -dsimp -implicitDefEqProofs only [go_sem]
theorem CX (s:lU) (h:s.length<=1048576):Fn pG 59 [eS s,eS [10]] true (· =eS (nS s)):=by refine Fn.au 8 [.tmp 4] func59 (hv:= ?_);simp -dsimp -implicitDefEqProofs only [go_sem];refine aa (zk s h) ?_;simp -dsimp -implicitDefEqProofs only [go_sem]
def fm (s:lU):List lU:=if (di 10 s).getD ((di 10 s).length-1) []=[] then (di 10 s).take ((di 10 s).length-1) else di 10 s
theorem qd {c:UInt8}:∀(a:lU),di c (a++[c])=di c a++[[]]
 | []=>by simp [di]
 |b::a=>by
  have ih:=qd (c:=c) a;rw [List.cons_append,di,di,ih];by_cases hb:b=c
  . rw [if_pos hb,if_pos hb];rfl
  rw [if_neg hb,if_neg hb];have hne:=sX c a;cases hs:di c a with
  |nil=>exact absurd hs hne
  |cons x r=>rfl
theorem FQ {c:UInt8}:∀(a:lU),(di c a).getD ((di c a).length-1) []=[]->a=[]\/∃b,a=b++[c]
 | [],_=>.inl rfl
 |b::a,h=>by
  right;have ih:=FQ (c:=c) a;have hne:=sX c a;rw [di] at h;by_cases hb:b=c
  . rw [if_pos hb] at h;have h2:(di c a).getD ((di c a).length-1) []=[]:=by
     have hl:0<(di c a).length:=List.length_pos_iff.2 hne;rw [dB,show (di c a).length+1-1=((di c a).length-1)+1 by omega,List.getD_cons_succ] at h;exact h
    rcases ih h2 with rfl|⟨d,rfl⟩
    . exact ⟨[],by rw [hb];rfl⟩
    exact ⟨b::d,rfl⟩
  rw [if_neg hb] at h;cases hs:di c a with
  |nil=>exact absurd hs hne
  |cons x r=>
   rw [hs] at h;simp only at h;cases r with
   |nil=>simp at h
   |cons y z=>
    have h2:(di c a).getD ((di c a).length-1) []=[]:=by rw [hs];simpa using h
    rcases ih h2 with rfl|⟨d,rfl⟩
    . simp [di] at hs
    exact ⟨b::d,rfl⟩
theorem IB (s:lU):(if s=[] then [] else di 10 (nS s))=fm s:=by
 by_cases h0:s=[]
 . subst h0;rw [if_pos rfl];rfl
 rw [if_neg h0];by_cases hd:s.drop (s.length-1)=[10]
 . have hs:s=s.take (s.length-1)++[10]:=by
    conv=>lhs;rw [←List.take_append_drop (s.length-1) s,hd]
   have ht:nS s=s.take (s.length-1):=by rw [nS,if_pos hd]
   rw [ht];generalize s.take (s.length-1)=a at*;subst hs;rw [fm,qd];have hl:(di 10 a++[[]]).length-1=(di 10 a).length:=by simp
   rw [hl,if_pos (by simp [uq7]),List.take_left'];rfl
 have ht:nS s=s:=by rw [nS,if_neg hd]
 rw [ht,fm,if_neg];intro e;rcases FQ s e with h|⟨b,rfl⟩
 . exact h0 h
 apply hd;simp
theorem tg:∀s:lU,(di 10 s).length<=s.length+1:=by
 intro s;induction s with
 |nil=>simp [di]
 |cons b s ih=>
  rw [di];split
  . simp;omega
  split
  . rename_i h;rw [h] at ih;simpa using (by simp at ih ⊢;omega)
  simp
theorem yx (s:lU):(fm s).length<=s.length+1/\∀l∈fm s,l.length<=s.length:=by
 have h2:=iV 10 s;unfold fm;split
 . exact ⟨by have:=tg s;simp;omega,fun l hl=>h2 l (cq hl)⟩
 exact ⟨tg s,h2⟩
theorem yy (s:lU) (h:s.length<=1048576):Fn pG 30 [eS s] true (· =lZ (fm s)):=by
 refine Fn.au 19 [.tmp 2] func30 (hv:= ?_);have hc:=yt s 10 h;have hne:=sX 10 s;have hLl:=tg s;unfold fm;generalize di 10 s=L at*;have hl:0<L.length:=List.length_pos_iff.2 hne;have e1:((L.length:Int)-1).toNat=L.length-1:=by omega
 have g1:L[L.length-1]? =some (L.getD (L.length-1) []):=by rw [uq7,uq8 (by omega)];rfl
 generalize L.getD (L.length-1) []=z at*;by_cases hz:z=[]
 . subst hz;rw [if_pos rfl];simp -dsimp -implicitDefEqProofs only [go_sem];refine aa hc ?_;simp -dsimp -implicitDefEqProofs only [go_sem,e1,g1];((with_reducible and_intros);all_goals try first|omega|(refine ⟨?_,?_⟩<;>omega));all_goals first|(simp;done)|(first|omega|(refine ⟨?_,?_⟩<;>omega)|exact rfl|(simp;done)|skip)
 have dz:decide (z=[])=false:=dF hz;rw [if_neg hz];simp -dsimp -implicitDefEqProofs only [go_sem];refine aa hc ?_;simp -dsimp -implicitDefEqProofs only [go_sem,e1,g1,dz];((with_reducible and_intros);all_goals try first|omega|(refine ⟨?_,?_⟩<;>omega));all_goals first|(simp;done)|(first|omega|(refine ⟨?_,?_⟩<;>omega)|exact rfl|(simp;done)|skip)
theorem Mt (s:lU) (h:s.length<=1048576):Fn pG 28 [eS s] true (· =eB (decide (s.length<=3000)&&decide ((fm s).length<=50))):=by
 refine Fn.au 12 [.tmp 2] func28 (hv:= ?_);have hc:=yy s h;rcases d1:decide ((s.length:Int)<=3000) with _|_
 . have e1:decide (s.length<=3000)=false:=dF (by have:=of_decide_eq_false d1;omega);rw [e1,uq1];simp -dsimp -implicitDefEqProofs only [go_sem,d1]
 have e1:decide (s.length<=3000)=true:=dT (by have:=oT d1;omega);have e2:decide (((fm s).length:Int)<=50)=decide ((fm s).length<=50):=by rw [decide_eq_decide];omega
 rw [e1,uq3,←e2];simp -dsimp -implicitDefEqProofs only [go_sem,d1];refine aa hc ?_;simp -dsimp -implicitDefEqProofs only [go_sem]
theorem Wf {m:aK} (hm:aY m=true) {k:lI} (h:qc m k):k≠[]:=by have ⟨⟨zy,zz⟩,hd1,hd2⟩:=aM hm;have:=h.len;intro hk;rw [hk] at this;simp at this;omega
theorem Mu {m:aK} (hm:aY m=true):(bx m).length<=262144:=by have ⟨⟨zy,zz⟩,hd1,hd2⟩:=aM hm;have:(bx m).length<=8^6:=Nat.le_trans (ke m hm _ _) (Nat.pow_le_pow_right (by decide) (by omega));omega
def lO (m:aK) (se sec:Int):Int:=if aY m=true then if bB se 0 25=true/\bB sec 0 (iG m-1)=true then 0 else 2 else 1
def jZ (m:aK) (key:lI) (se sec:Int):lU × Int:=
 if lO m se sec=0 then if fault m key=0 then (s9 (itoa (iG m)).length se ((cI m key key.length+sec).tmod (iG m)),0) else ([],2) else ([],lO m se sec)
theorem PV (m:aK):iG m=(bx m).length:=by unfold iG;rw [PC]
theorem qK {m:aK} (hm:aY m=true):0<=iG m/\iG m<=262144:=by have:=Mu hm;rw [PV];omega
theorem PW {m:aK} {se sec:Int} (h:lO m se sec=0):aY m=true/\(0<=se/\se<=25)/\0<=sec/\sec<iG m:=by
 unfold lO at h;split at h
 . rename_i hm;split at h
   . rename_i hi;simp only [bB,uq0,decide_eq_true_eq] at hi;exact ⟨hm,by omega,by omega,by omega⟩
   omega
 omega
theorem Mv (m:aK) (se sec:Int):Fn pG 151 [la m,eI se,eI sec] true (· =eI (lO m se sec)):=by
 refine Fn.au 21 [.tmp 6] func151 (hv:= ?_);have ko:=fA m;unfold lO;rcases hm:aY m with _|_
 . rw [hm] at ko;simp only [uq2,if_false];clear hm;simp -dsimp -implicitDefEqProofs only [go_sem];repeat' (refine aa (ko) ?_;try simp -dsimp -implicitDefEqProofs only [go_sem, *])
 have hcn:=lM m hm;have hb:=qK hm;have e:iG m=(lF m m.af.toNat []:Nat):=rfl;rw [e] at hb ⊢;rw [hm] at ko;clear hm e;generalize lF m m.af.toNat []=N at*;have i1:=jz se 0 25;have i2:=jz sec 0 ((N:Int)-1);simp only [if_true];generalize bB se 0 25=x at*;generalize bB sec 0 ((N:Int)-1)=y at*;cases x
 . simp only [uq2,false_and,if_false];simp -dsimp -implicitDefEqProofs only [go_sem];repeat' (refine aa (ko) ?_;try simp -dsimp -implicitDefEqProofs only [go_sem, *])
   repeat' (refine aa (i1) ?_;try simp -dsimp -implicitDefEqProofs only [go_sem, *])
 cases y
 . simp only [uq2,and_false,if_false];simp -dsimp -implicitDefEqProofs only [go_sem];repeat' (refine aa (ko) ?_;try simp -dsimp -implicitDefEqProofs only [go_sem, *])
   repeat' (refine aa (i1) ?_;try simp -dsimp -implicitDefEqProofs only [go_sem, *])
   repeat' (refine aa (hcn) ?_;try simp -dsimp -implicitDefEqProofs only [go_sem, *])
   ((with_reducible and_intros);all_goals try ((refine ⟨?_,?_⟩<;>omega)));repeat' (refine aa (i2) ?_;try simp -dsimp -implicitDefEqProofs only [go_sem, *])
 simp only [and_self,if_true];simp -dsimp -implicitDefEqProofs only [go_sem];repeat' (refine aa (ko) ?_;try simp -dsimp -implicitDefEqProofs only [go_sem, *])
 repeat' (refine aa (i1) ?_;try simp -dsimp -implicitDefEqProofs only [go_sem, *])
 repeat' (refine aa (hcn) ?_;try simp -dsimp -implicitDefEqProofs only [go_sem, *])
 ((with_reducible and_intros);all_goals try ((refine ⟨?_,?_⟩<;>omega)));repeat' (refine aa (i2) ?_;try simp -dsimp -implicitDefEqProofs only [go_sem, *])
theorem FR (m:aK):Fn pG 180 [la m] true (· = .aX [eI (if aY m=true then iG m else 0),eI (if aY m=true then 0 else 1)]):=by
 refine Fn.au 9 [.tmp 2,.tmp 3] func180 (hv:= ?_);have ko:=eJ m;rcases hm:aY m with _|_
 . rw [hm] at ko;simp only [uq2,if_false];clear hm;simp -dsimp -implicitDefEqProofs only [go_sem];repeat' (refine aa (ko) ?_;try simp -dsimp -implicitDefEqProofs only [go_sem, *])
 have hcn:=uV m hm;rw [hm] at ko;simp only [if_true];clear hm;simp -dsimp -implicitDefEqProofs only [go_sem];repeat' (refine aa (ko) ?_;try simp -dsimp -implicitDefEqProofs only [go_sem, *])
 repeat' (refine aa (hcn) ?_;try simp -dsimp -implicitDefEqProofs only [go_sem, *])
 all_goals first|rfl|skip
theorem IC (m:aK) (key:lI) (se sec:Int) (hk:key.length<=1048576):Fn pG 125 [la m,aQ key,eI se,eI sec] true (· = .aX [eS (jZ m key se sec).1,eI (jZ m key se sec).2]):=by
 refine Fn.au 42 [.tmp 8,.tmp 9] func125 (hv:= ?_);have ft:=PE m key hk;have h10:((1:Int) != 0)=true:=rfl;have h20:((2:Int) != 0)=true:=rfl;have h00:((0:Int) != 0)=false:=rfl;unfold jZ lO;rcases hm:aY m with _|_
 . rw [hm] at ft;simp only [uq2,if_false,Int.reduceEq] at ft ⊢;clear hm;simp -dsimp -implicitDefEqProofs only [go_sem];repeat' (refine aa (ft) ?_;try simp -dsimp -implicitDefEqProofs only [go_sem, *])
 rw [hm] at ft;simp only [if_true] at ft ⊢;by_cases hf:fault m key=0
 . rw [if_pos hf] at ft ⊢;have hcn:=uV m hm;have hlt:=(CT hf).2;have hb:=jC m hm;have i1:=kO se 0 25;have i2:=kO sec 0 (iG m-1);have d1:bB se 0 25=true->0<=se/\se<=25:=by simp [bB]
   have d2:bB sec 0 (iG m-1)=true->0<=sec/\sec<=iG m-1:=by simp [bB]
   have e:iG m=(lF m m.af.toNat []:Nat):=rfl;rw [e] at i2 d2 ⊢;have hst:=fun a b=>FG (lF m m.af.toNat []) se ((cI m key key.length+sec).tmod (lF m m.af.toNat []:Nat)) (by omega) a b
   have hbn:0<=sec->0<=(cI m key key.length+sec).tmod (lF m m.af.toNat []:Nat)/\(cI m key key.length+sec).tmod (lF m m.af.toNat []:Nat)<=1000000:=fun h=>⟨Int.tmod_nonneg _ (by omega),by
    have:=Int.tmod_lt_of_pos (cI m key key.length+sec) (show 0<((lF m m.af.toNat []:Nat):Int) by omega)
    omega⟩
   generalize lF m m.af.toNat []=N at*;generalize cI m key key.length=r at*;have hN0:((N:Int)==0)=false:=beq_eq_false_iff_ne.2 (by omega);clear hm hf e;generalize bB se 0 25=x at*;generalize bB sec 0 ((N:Int)-1)=y at*;cases x
   . simp only [uq2,false_and,if_false,Int.reduceEq];clear hst hbn d1 d2;simp -dsimp -implicitDefEqProofs only [go_sem];repeat' (refine aa (ft) ?_;try simp -dsimp -implicitDefEqProofs only [go_sem, *])
     repeat' (refine aa (hcn) ?_;try simp -dsimp -implicitDefEqProofs only [go_sem, *])
     repeat' (refine aa (i1) ?_;try simp -dsimp -implicitDefEqProofs only [go_sem, *])
   cases y
   . simp only [uq2,and_false,if_false,Int.reduceEq];clear hst hbn d1 d2;simp -dsimp -implicitDefEqProofs only [go_sem];repeat' (refine aa (ft) ?_;try simp -dsimp -implicitDefEqProofs only [go_sem, *])
     repeat' (refine aa (hcn) ?_;try simp -dsimp -implicitDefEqProofs only [go_sem, *])
     repeat' (refine aa (i1) ?_;try simp -dsimp -implicitDefEqProofs only [go_sem, *])
     ((with_reducible and_intros);all_goals try ((refine ⟨?_,?_⟩<;>omega)));repeat' (refine aa (i2) ?_;try simp -dsimp -implicitDefEqProofs only [go_sem, *])
   simp only [and_self,if_true];have e1:=d1 rfl;have e2:=d2 rfl;have hst:=hst e1 (hbn e2.1);clear hbn d1 d2;generalize itoa (N:Int)=A at*;simp -dsimp -implicitDefEqProofs only [go_sem];repeat' (refine aa (ft) ?_;try simp -dsimp -implicitDefEqProofs only [go_sem, *])
   repeat' (refine aa (hcn) ?_;try simp -dsimp -implicitDefEqProofs only [go_sem, *])
   repeat' (refine aa (i1) ?_;try simp -dsimp -implicitDefEqProofs only [go_sem, *])
   ((with_reducible and_intros);all_goals try ((refine ⟨?_,?_⟩<;>omega)));repeat' (refine aa (i2) ?_;try simp -dsimp -implicitDefEqProofs only [go_sem, *])
   ((with_reducible and_intros);all_goals try first|omega|(refine ⟨?_,?_⟩<;>omega));repeat' (refine aa (hst) ?_;try simp -dsimp -implicitDefEqProofs only [go_sem, *])
 rw [if_neg hf] at ft;have hz:(if (if bB se 0 25=true/\bB sec 0 (iG m-1)=true then (0:Int) else 2)=0 then if fault m key=0 then (s9 (itoa (iG m)).length se ((cI m key key.length+sec).tmod (iG m)),(0:Int)) else ([],2) else ([],if bB se 0 25=true/\bB sec 0 (iG m-1)=true then 0 else 2))=([],2):=by
  by_cases q:bB se 0 25=true/\bB sec 0 (iG m-1)=true
  . rw [if_pos q,if_pos rfl,if_neg hf]
  rw [if_neg q,if_neg (by omega)]
 rw [hz];clear hm hf hz;simp -dsimp -implicitDefEqProofs only [go_sem];repeat' (refine aa (ft) ?_;try simp -dsimp -implicitDefEqProofs only [go_sem, *])
theorem ID (m:aK) (key:lI) (se sec:Int) (hk:key.length<=1048576):Fn pG 107 [la m,aQ key,eI se,eI sec] true (· = .aX [eS (jZ m key se sec).1,eI (jZ m key se sec).2]):=by
 refine Fn.au 37 [.tmp 8,.tmp 9] func107 (hv:= ?_);have ft:=Mv m se sec;have h10:((1:Int) != 0)=true:=rfl;have h20:((2:Int) != 0)=true:=rfl;have h00:((0:Int) != 0)=false:=rfl;unfold jZ;by_cases hc:lO m se sec=0
 . obtain ⟨hm,hse,YM⟩:=PW hc;rw [hc] at ft;rw [if_pos hc];have hfa:=nr m key hm hk;have hcn:=lM m hm;by_cases hf:fault m key=0
   . rw [hf] at hfa;rw [if_pos hf];have hlt:=(CT hf).2;have hb:=jC m hm;have hrk:=Mc m key hm hf;have e:iG m=(lF m m.af.toNat []:Nat):=rfl;rw [e] at YM ⊢
     have hbn:0<=(cI m key key.length+sec).tmod (lF m m.af.toNat []:Nat)/\(cI m key key.length+sec).tmod (lF m m.af.toNat []:Nat)<=1000000:=⟨Int.tmod_nonneg _ (by omega),by
      have:=Int.tmod_lt_of_pos (cI m key key.length+sec) (show 0<((lF m m.af.toNat []:Nat):Int) by omega)
      omega⟩
     have hst:=Mj m hm se _ hse hbn;generalize lF m m.af.toNat []=N at*;generalize cI m key key.length=r at*;have hN0:((N:Int)==0)=false:=beq_eq_false_iff_ne.2 (by omega);clear hm hf e hc;generalize itoa (N:Int)=A at*;simp -dsimp -implicitDefEqProofs only [go_sem];repeat' (refine aa (ft) ?_;try simp -dsimp -implicitDefEqProofs only [go_sem, *])
     repeat' (refine aa (hfa) ?_;try simp -dsimp -implicitDefEqProofs only [go_sem, *])
     refine aj.draw mixed rfl ?_;simp -dsimp -implicitDefEqProofs only [go_sem];(refine ak (hrk) ?_;try simp -dsimp -implicitDefEqProofs only [go_sem, *]);((with_reducible and_intros);all_goals try ((refine ⟨?_,?_⟩<;>omega)));(refine ak (hcn) ?_;try simp -dsimp -implicitDefEqProofs only [go_sem, *]);((with_reducible and_intros);all_goals try (omega));(refine ak (hst) ?_;try simp -dsimp -implicitDefEqProofs only [go_sem, *]);(all_goals try (exact rfl))
   rw [if_neg hf];have hz:(fault m key != 0)=true:=bne_iff_ne.2 hf;clear hm hf hc hcn;generalize fault m key=F at*;simp -dsimp -implicitDefEqProofs only [go_sem];repeat' (refine aa (ft) ?_;try simp -dsimp -implicitDefEqProofs only [go_sem, *])
   repeat' (refine aa (hfa) ?_;try simp -dsimp -implicitDefEqProofs only [go_sem, *])
 rw [if_neg hc];have hz:(lO m se sec==0)=false:=beq_eq_false_iff_ne.2 hc;have hz2:(lO m se sec != 0)=true:=bne_iff_ne.2 hc;clear hc;generalize lO m se sec=C at*;simp -dsimp -implicitDefEqProofs only [go_sem];repeat' (refine aa (ft) ?_;try simp -dsimp -implicitDefEqProofs only [go_sem, *])
theorem Fn.yz {P:Program} {f:FuncId} {args:lA} {post:AV->Prop} (h:Fn P f args false (fun x=>∃r,sJ x r/\post r)):Fn P f args false post:=
 ⟨h.1,fun w S vs h1 hk h2 h3=>(h.2 w S vs h1 hk h2 h3).mono fun _ _ ⟨x,v,g1,⟨r,g2,g3⟩,g4,g5⟩=>⟨r,v,g1,g3,g4,by
   simp only [iK,uq2,if_false] at g5 ⊢
   exact (Cq (Own.rd _ _ g5) g2).l9 (fun _ h=>h) fun b hb=>by cases hb⟩⟩
theorem ik {m:aK} {t ab:lL} (h:bS m t ab=0):eO m t=true/\dV m t ab=true:=by
 unfold bS at h;split at h
 . rename_i h1;split at h
   . rename_i h2;exact ⟨h1,h2⟩
   cases h
 cases h
structure Mw (m:aK) (t ab:lL):Prop where
 pF:aY m=true
 num:(2<=m.af/\m.af<=6)/\2<=m.ao/\m.ao<=8
 tl:t.length<=1000
 t0:0<t.length
 le:ab.length<=t.length
 row:∀i (hi:i<t.length),t[i].length=(t.getD 0 []).length
 wd:(t.getD 0 []).length<=1000
 cut:∀x∈ab,(x.length:Int)=m.af/\∀y∈x,0<=y/\y<m.ao
 key:∀x∈ab,fB m x=true
theorem Vw {m:aK} {t ab:lL} (hs:eO m t=true) (hl:ab.length<=t.length) (hk:∀x∈ab,fB m x=true):Mw m t ab:=by have ko:=lG hs;obtain ⟨⟨n1,n2⟩,n3,n4⟩:=aM ko;obtain ⟨k1,k2,k3,k4,k5⟩:=iT hs;exact ⟨ko,⟨⟨by omega,by omega⟩,by omega,by omega⟩,by omega,by omega,hl,k5,by omega,fun x hx=>gq (hk x hx),hk⟩
theorem iX {m:aK} {t ab:lL} (h:bk m t ab=true):Mw m t ab:=by obtain ⟨hs,hc⟩:=sZ h;obtain ⟨c1,c2⟩:=dH hc;exact Vw hs (by omega) fun x hx=>c2 x hx
theorem th {m:aK} {t ab:lL} (h:Mw m t ab) (k:Nat):((bN m t ab k).length:Int)=m.af/\∀x∈bN m t ab k,x.length<=8:=by refine ⟨by rw [kP];have:=h.num;omega,fun x hx=> ?_⟩;have:=iB m t ab _ x hx;have:=h.num;omega
theorem CY (m:aK):Fn pG 99 [la m] true (· = .aX [eI (if aY m=true then iG m else 0),eI (if aY m=true then 0 else 1)]):=by
 refine Fn.au 9 [.tmp 2,.tmp 3] func99 (hv:= ?_);have hi:=fA m;rcases hm:aY m with _|_
 . rw [hm] at hi;rw [if_neg (by simp),if_neg (by simp)];simp -dsimp -implicitDefEqProofs only [go_sem];refine aa hi ?_;simp -dsimp -implicitDefEqProofs only [go_sem]
 rw [hm] at hi;have hc:=lM m hm;rw [if_pos rfl,if_pos rfl];simp -dsimp -implicitDefEqProofs only [go_sem];refine aa hi ?_;simp -dsimp -implicitDefEqProofs only [go_sem];refine aa hc ?_;simp -dsimp -implicitDefEqProofs only [go_sem];all_goals (first|exact rfl|skip)
theorem IE (m:aK) (t ab:lL) (h:t.length<=1048576) (h2:∀x∈t,x.length<=1048576) (h3:ab.length<=1048576) (h4:∀x∈ab,x.length<=1048576):Fn pG 118 [jM m t,aR ab] false (· = .aX [pM (if bS m t ab=0 then ay m t ab (t.getD 0 []).length else []),eI (bS m t ab)]):=by
 refine Fn.yz (Fn.mono (post:=fun x=>sJ x (.aX [pM (if bS m t ab=0 then ay m t ab (t.getD 0 []).length else []),eI (bS m t ab)])) (Fn.cf 16 [.tmp 4,.tmp 5] func118 (hv:= ?_)) fun x hx=>⟨_,hx,rfl⟩);have hc:=qH m t ab h h2 h3 h4;by_cases h0:bS m t ab=0
 . obtain ⟨hs,eQ⟩:=ik h0;obtain ⟨c1,c2⟩:=dH eQ;have hF:=Vw hs (by omega) fun x hx=>c2 x hx;have hp:=gp m t ab hF.pF hF.tl hF.le hF.t0 hF.row hF.wd hF.cut;rw [if_pos h0];rw [h0] at hc ⊢;have e:((0:Int) != 0)=false:=rfl;simp -dsimp -implicitDefEqProofs only [go_sem];refine aa hc ?_;simp -dsimp -implicitDefEqProofs only [go_sem,e];refine av hp (by simp [ax,an,aq,aG]) ?_;simp -dsimp -implicitDefEqProofs only [go_sem]
 have e:(bS m t ab != 0)=true:=bne_iff_ne.2 h0;rw [if_neg h0];simp -dsimp -implicitDefEqProofs only [go_sem];refine aa hc ?_;simp -dsimp -implicitDefEqProofs only [go_sem,e]
theorem IF (m:aK) (t ab:lL) (h:t.length<=1048576) (h2:∀x∈t,x.length<=1048576) (h3:ab.length<=1048576) (h4:∀x∈ab,x.length<=1048576):Fn pG 101 [jM m t,aR ab] false (· = .aX [pM (if bS m t ab=0 then ay m t ab (t.getD 0 []).length else []),eI (bS m t ab)]):=by
 refine Fn.yz (Fn.mono (post:=fun x=>sJ x (.aX [pM (if bS m t ab=0 then ay m t ab (t.getD 0 []).length else []),eI (bS m t ab)])) (Fn.cf 16 [.tmp 4,.tmp 5] func101 (hv:= ?_)) fun x hx=>⟨_,hx,rfl⟩);have hc:=s0 m t ab h h2 h3 h4;by_cases h0:bS m t ab=0
 . obtain ⟨hs,eQ⟩:=ik h0;obtain ⟨c1,c2⟩:=dH eQ;have hF:=Vw hs (by omega) fun x hx=>c2 x hx;have hp:=kQ m t ab hF.pF (by omega) hF.le hF.t0 hF.row (by have:=hF.wd;omega) fun x hx=>(hF.cut x hx).1;rw [if_pos h0];rw [h0] at hc ⊢;have e:((0:Int) != 0)=false:=rfl;simp -dsimp -implicitDefEqProofs only [go_sem];refine aa hc ?_;simp -dsimp -implicitDefEqProofs only [go_sem,e];refine av hp (by simp [ax,an,aq,aG]) ?_;simp -dsimp -implicitDefEqProofs only [go_sem]
 have e:(bS m t ab != 0)=true:=bne_iff_ne.2 h0;rw [if_neg h0];simp -dsimp -implicitDefEqProofs only [go_sem];refine aa hc ?_;simp -dsimp -implicitDefEqProofs only [go_sem,e]
def mI (m:aK) (t ab:lL):lL:=if bS m t ab=0 then gN m t ab else []
theorem tn (m:aK) (t ab:lL) (h:t.length<=1048576) (h2:∀x∈t,x.length<=1048576) (h3:ab.length<=1048576) (h4:∀x∈ab,x.length<=1048576):Fn pG 178 [jM m t,aR ab] false (· = .aX [aR (mI m t ab),eI (bS m t ab)]):=by
 refine Fn.yz (Fn.mono (post:=fun x=>sJ x (.aX [aR (mI m t ab),eI (bS m t ab)])) (Fn.cf 16 [.tmp 4,.tmp 5] func178 (hv:= ?_)) fun x hx=>⟨_,hx,rfl⟩);have hc:=qH m t ab h h2 h3 h4;unfold mI;by_cases h0:bS m t ab=0
 . obtain ⟨hs,eQ⟩:=ik h0;obtain ⟨c1,c2⟩:=dH eQ;have hF:=Vw hs (by omega) fun x hx=>c2 x hx;have hp:=nu m t ab hF.pF hF.tl hF.le hF.t0 hF.row hF.wd hF.cut;rw [if_pos h0];rw [h0] at hc ⊢;have e:((0:Int) != 0)=false:=rfl;simp -dsimp -implicitDefEqProofs only [go_sem];refine aa hc ?_;simp -dsimp -implicitDefEqProofs only [go_sem,e];refine av hp (by simp [ax,an,aq,aG]) ?_;simp -dsimp -implicitDefEqProofs only [go_sem]
 have e:(bS m t ab != 0)=true:=bne_iff_ne.2 h0;rw [if_neg h0];simp -dsimp -implicitDefEqProofs only [go_sem];refine aa hc ?_;simp -dsimp -implicitDefEqProofs only [go_sem,e]
theorem tq (m:aK) (t ab:lL) (h:t.length<=1048576) (h2:∀x∈t,x.length<=1048576) (h3:ab.length<=1048576) (h4:∀x∈ab,x.length<=1048576):Fn pG 97 [jM m t,aR ab] false (· = .aX [aR (mI m t ab),eI (bS m t ab)]):=by
 refine Fn.yz (Fn.mono (post:=fun x=>sJ x (.aX [aR (mI m t ab),eI (bS m t ab)])) (Fn.cf 16 [.tmp 4,.tmp 5] func97 (hv:= ?_)) fun x hx=>⟨_,hx,rfl⟩);have hc:=s0 m t ab h h2 h3 h4;unfold mI;by_cases h0:bS m t ab=0
 . obtain ⟨hs,eQ⟩:=ik h0;obtain ⟨c1,c2⟩:=dH eQ;have hF:=Vw hs (by omega) fun x hx=>c2 x hx;have hp:=qF m t ab hF.pF (by have:=hF.tl;omega) hF.le hF.t0 hF.row hF.wd fun x hx=>(hF.cut x hx).1;rw [if_pos h0];rw [h0] at hc ⊢;have e:((0:Int) != 0)=false:=rfl;simp -dsimp -implicitDefEqProofs only [go_sem];refine aa hc ?_;simp -dsimp -implicitDefEqProofs only [go_sem,e];refine av hp (by simp [ax,an,aq,aG]) ?_;simp -dsimp -implicitDefEqProofs only [go_sem]
 have e:(bS m t ab != 0)=true:=bne_iff_ne.2 h0;rw [if_neg h0];simp -dsimp -implicitDefEqProofs only [go_sem];refine aa hc ?_;simp -dsimp -implicitDefEqProofs only [go_sem,e]
def fQ (l:lL):Int:=(l.map fun s=>(s.length:Int)-1).sum
theorem BK (l:lL) (i:Nat) (hi:i<l.length):fQ (l.take (i+1))=fQ (l.take i)+((l[i].length:Int)-1):=by rw [du hi,fQ,cj,List.sum_append];simp [fQ]
theorem CZ (l:lL) (h:∀x∈l,x.length<=8): -(l.length:Int)<=fQ l/\fQ l<=7*l.length:=by
 induction l with
 |nil=>simp [fQ]
 |cons x r ih=>
  have h1:=h x (List.mem_cons_self ..);have h2:=ih fun y hy=>h y (List.mem_cons_of_mem _ hy);have e:fQ (x::r)=((x.length:Int)-1)+fQ r:=by simp [fQ]
  rw [e,dB];omega
theorem IG (l:lL) (h:l.length<=1000) (h2:∀x∈l,x.length<=8):Fn pG 266 [r8 l] true (· =eI (fQ l)):=by
 refine Fn.au 20 [.tmp 2] func266 (hv:= ?_);have hb:∀i, -(1000:Int)<=fQ (l.take i)/\fQ (l.take i)<=7000:=fun i=>by
  have:=CZ (l.take i) fun x hx=>h2 x (cq hx);have:(l.take i).length<=1000:=by simp;omega
  omega
 simp -dsimp -implicitDefEqProofs only [go_sem];refine aj.up [7,8] [15] [] l.length (fun _=>True) (fun i=>[(3,eI (fQ (l.take i))),(9,eI i)]) (fun _=>[]) trivial ?_ rfl (fun i hi _=> ?_) (fun _=> ?_)
 . simp -dsimp -implicitDefEqProofs only [go_sem];all_goals first|rfl|skip
 . have gi:=get_some hi;have hx:=h2 _ (uq9 hi);have b1:=hb i;rw [BK l i hi];generalize fQ (l.take i)=W at*;generalize l[i]=x at*;simp -dsimp -implicitDefEqProofs only [pz,cG,cH,bh,↓reduceIte,bK];simp -dsimp -implicitDefEqProofs only [go_sem,aE hi,gi];((with_reducible and_intros);all_goals try first|omega|(refine ⟨?_,?_⟩<;>omega)|exact rfl)
 simp -dsimp -implicitDefEqProofs only [pz,cG,cH,bh,↓reduceIte,bK];simp -dsimp -implicitDefEqProofs only [go_sem,aA,bd]
theorem FT (l:lL) (h:l.length<=1000) (h2:∀x∈l,x.length<=8):Fn pG 194 [r8 l] true (· =eI (fQ l)):=by
 refine Fn.au 22 [.tmp 2] func194 (hv:= ?_);have hb:∀i, -(1000:Int)<=fQ (l.take i)/\fQ (l.take i)<=7000:=fun i=>by
  have:=CZ (l.take i) fun x hx=>h2 x (cq hx);have:(l.take i).length<=1000:=by simp;omega
  omega
 simp -dsimp -implicitDefEqProofs only [go_sem];refine aj.up [1] [8,18] [] l.length (fun _=>True) (fun i=>[(3,eI (fQ (l.take i))),(4,eI i)]) (fun _=>[]) trivial ?_ rfl (fun i hi _=> ?_) (fun _=> ?_)
 . simp -dsimp -implicitDefEqProofs only [go_sem];all_goals first|rfl|skip
 . have gi:=get_some hi;have hx:=h2 _ (uq9 hi);have b1:=hb i;rw [BK l i hi];generalize fQ (l.take i)=W at*;generalize l[i]=x at*;simp -dsimp -implicitDefEqProofs only [pz,cG,cH,bh,↓reduceIte,bK];simp -dsimp -implicitDefEqProofs only [go_sem,aE hi,gi];((with_reducible and_intros);all_goals try first|omega|(refine ⟨?_,?_⟩<;>omega)|exact rfl);all_goals first|(congr 1;omega)|(first|omega|(refine ⟨?_,?_⟩<;>omega)|exact rfl|(simp;done)|skip)
 simp -dsimp -implicitDefEqProofs only [pz,cG,cH,bh,↓reduceIte,bK];simp -dsimp -implicitDefEqProofs only [go_sem,aA,bd]
def j0 (ls:List lL):Int:=(ls.map fQ).sum
theorem BL (ls:List lL) (i:Nat) (hi:i<ls.length):j0 (ls.take (i+1))=j0 (ls.take i)+fQ ls[i]:=by rw [du hi,j0,cj,List.sum_append];simp [j0]
theorem JR (ls:List lL) (h:∀l∈ls, -1000<=fQ l/\fQ l<=7000): -1000*(ls.length:Int)<=j0 ls/\j0 ls<=7000*ls.length:=by
 induction ls with
 |nil=>simp [j0]
 |cons x r ih=>
  have h1:=h x (List.mem_cons_self ..);have h2:=ih fun y hy=>h y (List.mem_cons_of_mem _ hy);have e:j0 (x::r)=fQ x+j0 r:=by simp [j0]
  rw [e,dB];omega
theorem lP {m:aK} {t ab:lL} {n:Nat} {l:lL} (h:l∈ay m t ab n):∃k,k<n/\l=bN m t ab k:=by simp only [ay,List.mem_map,List.mem_range] at h;obtain ⟨k,hk,rfl⟩:=h;exact ⟨k,hk,rfl⟩
theorem tu {m:aK} {t ab:lL} (hF:Mw m t ab) (n:Nat):∀l∈ay m t ab n,l.length<=1000/\(∀x∈l,x.length<=8)/\ -1000<=fQ l/\fQ l<=7000:=by intro l hl;obtain ⟨k,_,rfl⟩:=lP hl;obtain ⟨h1,h2⟩:=th hF k;have:=hF.num;have:=CZ _ h2;exact ⟨by omega,h2,by omega,by omega⟩
def nX (m:aK) (t ab:lL):Int:=j0 (ay m t ab (t.getD 0 []).length)
theorem yA (m:aK) (t ab:lL) (hF:Mw m t ab):Fn pG 234 [jM m t,aR ab] true (· =eI (nX m t ab)):=by
 refine Fn.au 22 [.tmp 4] func234 (hv:= ?_);have hp:=gp m t ab hF.pF hF.tl hF.le hF.t0 hF.row hF.wd hF.cut;have hw:=tu hF (t.getD 0 []).length;have hll:(ay m t ab (t.getD 0 []).length).length<=1000:=by rw [ay,dt,cF];exact hF.wd
 unfold nX;generalize ay m t ab (t.getD 0 []).length=ls at*;have hb:∀i, -(1000000:Int)<=j0 (ls.take i)/\j0 (ls.take i)<=7000000:=fun i=>by
  have:=JR (ls.take i) fun x hx=>(hw x (cq hx)).2.2;have:(ls.take i).length<=1000:=by simp;omega
  omega
 simp -dsimp -implicitDefEqProofs only [go_sem];refine av hp (by simp [ax,an,aq,aG]) ?_;simp -dsimp -implicitDefEqProofs only [go_sem];refine aj.up [10,11] [7,18] [] ls.length (fun _=>True) (fun i=>[(5,eI (j0 (ls.take i))),(12,eI i)]) (fun _=>[]) trivial ?_ rfl (fun i hi _=> ?_) (fun _=> ?_)
 . simp -dsimp -implicitDefEqProofs only [go_sem];all_goals first|rfl|skip
 . have gi:=get_some hi;have hx:=hw _ (uq9 hi);have b1:=hb i;have hcw:=IG ls[i] hx.1 hx.2.1;rw [BL ls i hi];generalize j0 (ls.take i)=W at*;generalize ls[i]=x at*;simp -dsimp -implicitDefEqProofs only [pz,cG,cH,bh,↓reduceIte,bK];simp -dsimp -implicitDefEqProofs only [go_sem,aE hi,gi];((with_reducible and_intros);all_goals try (omega));refine aa hcw ?_;simp -dsimp -implicitDefEqProofs only [go_sem];((with_reducible and_intros);all_goals try first|(refine ⟨?_,?_⟩<;>omega)|exact rfl)
 simp -dsimp -implicitDefEqProofs only [pz,cG,cH,bh,↓reduceIte,bK];simp -dsimp -implicitDefEqProofs only [go_sem,aA,bd]
theorem vu (m:aK) (t ab:lL) (h:t.length<=1048576) (h2:∀x∈t,x.length<=1048576) (h3:ab.length<=1048576) (h4:∀x∈ab,x.length<=1048576):Fn pG 181 [jM m t,aR ab] true (· = .aX [eI (if bk m t ab=true then nX m t ab else 0),eI (if bk m t ab=true then 0 else 1)]):=by
 refine Fn.au 16 [.tmp 4,.tmp 5] func181 (hv:= ?_);have hc:=kf m t ab h h2 h3 h4;rcases hd:bk m t ab with _|_
 . rw [hd,if_neg (by simp)] at hc;rw [if_neg (by simp),if_neg (by simp)];have e:((1:Int) != 0)=true:=rfl;simp -dsimp -implicitDefEqProofs only [go_sem];refine aa hc ?_;simp -dsimp -implicitDefEqProofs only [go_sem,e]
 rw [hd,if_pos rfl] at hc;rw [if_pos rfl,if_pos rfl];have hs:=yA m t ab (iX hd);have e:((0:Int) != 0)=false:=rfl;simp -dsimp -implicitDefEqProofs only [go_sem];refine aa hc ?_;simp -dsimp -implicitDefEqProofs only [go_sem,e];refine aa hs ?_;simp -dsimp -implicitDefEqProofs only [go_sem]
theorem FU (m:aK) (t ab:lL) (hF:Mw m t ab):Fn pG 144 [jM m t,aR ab] true (· =eI (nX m t ab)):=by
 refine Fn.au 25 [.tmp 4] func144 (hv:= ?_);have hp:=kQ m t ab hF.pF (by have:=hF.tl;have:=hF.le;omega) hF.le hF.t0 hF.row (by have:=hF.wd;omega) fun x hx=>(hF.cut x hx).1;have hw:=tu hF (t.getD 0 []).length;have hll:(ay m t ab (t.getD 0 []).length).length<=1000:=by rw [ay,dt,cF];exact hF.wd
 unfold nX;generalize ay m t ab (t.getD 0 []).length=ls at*;have hb:∀i, -(1000000:Int)<=j0 (ls.take i)/\j0 (ls.take i)<=7000000:=fun i=>by
  have:=JR (ls.take i) fun x hx=>(hw x (cq hx)).2.2;have:(ls.take i).length<=1000:=by simp;omega
  omega
 simp -dsimp -implicitDefEqProofs only [go_sem];refine av hp (by simp [ax,an,aq,aG]) ?_;simp -dsimp -implicitDefEqProofs only [go_sem];refine aj.up [5] [13,22] [] ls.length (fun _=>True) (fun i=>[(6,eI (j0 (ls.take i))),(7,eI i)]) (fun _=>[]) trivial ?_ rfl (fun i hi _=> ?_) (fun _=> ?_)
 . simp -dsimp -implicitDefEqProofs only [go_sem];all_goals first|rfl|skip
 . have gi:=get_some hi;have hx:=hw _ (uq9 hi);have b1:=hb i;have hcw:=FT ls[i] hx.1 hx.2.1;rw [BL ls i hi];generalize j0 (ls.take i)=W at*;generalize ls[i]=x at*;simp -dsimp -implicitDefEqProofs only [pz,cG,cH,bh,↓reduceIte,bK];simp -dsimp -implicitDefEqProofs only [go_sem,aE hi,gi];((with_reducible and_intros);all_goals try (omega));refine aa hcw ?_;simp -dsimp -implicitDefEqProofs only [go_sem];((with_reducible and_intros);all_goals try first|(refine ⟨?_,?_⟩<;>omega)|exact rfl)
 simp -dsimp -implicitDefEqProofs only [pz,cG,cH,bh,↓reduceIte,bK];simp -dsimp -implicitDefEqProofs only [go_sem,aA,bd]
theorem vv (m:aK) (t ab:lL) (h:t.length<=1048576) (h2:∀x∈t,x.length<=1048576) (h3:ab.length<=1048576) (h4:∀x∈ab,x.length<=1048576):Fn pG 100 [jM m t,aR ab] true (· = .aX [eI (if bk m t ab=true then nX m t ab else 0),eI (if bk m t ab=true then 0 else 1)]):=by
 refine Fn.au 16 [.tmp 4,.tmp 5] func100 (hv:= ?_);have hc:=pE m t ab h h2 h3 h4;rcases hd:bk m t ab with _|_
 . rw [hd,if_neg (by simp)] at hc;rw [if_neg (by simp),if_neg (by simp)];have e:((1:Int) != 0)=true:=rfl;simp -dsimp -implicitDefEqProofs only [go_sem];refine aa hc ?_;simp -dsimp -implicitDefEqProofs only [go_sem,e]
 rw [hd,if_pos rfl] at hc;rw [if_pos rfl,if_pos rfl];have hs:=FU m t ab (iX hd);have e:((0:Int) != 0)=false:=rfl;simp -dsimp -implicitDefEqProofs only [go_sem];refine aa hc ?_;simp -dsimp -implicitDefEqProofs only [go_sem,e];refine aa hs ?_;simp -dsimp -implicitDefEqProofs only [go_sem]
def bD (ls:List lL) (c:lI):Nat->lI
 |0=>[]
 |n+1=>if dU (ls.getD n []) c=true then bD ls c n++[(n:Int)] else bD ls c n
theorem gu (ls:List lL) (c:lI):∀n,(bD ls c n).length<=n
 |0=>fH _
 |n+1=>by
  have:=gu ls c n;rw [bD];split
  . simp;omega
  omega
theorem tv (ls:List lL) (c:lI):∀n,∀x∈bD ls c n,0<=x/\x<n
 |0,x,h=>by cases h
 |n+1,x,h=>by
  rw [bD] at h;split at h
  . rcases List.mem_append.1 h with h|h
    . have:=tv ls c n x h;omega
    simp at h;omega
  have:=tv ls c n x h;omega
theorem l5 (ls:List lL) (c:lI) (h:ls.length<=1000) (hl:∀l∈ls,c.length<=l.length/\l.length<=1048576/\∀x∈l,x.length<=1048576):Fn pG 169 [pM ls,aQ c] true (· =aQ (bD ls c ls.length)):=by
 refine Fn.au 25 [.tmp 4] func169 (hv:= ?_);simp -dsimp -implicitDefEqProofs only [go_sem];refine aj.up [1,9,10] [7,18,21,22] [8] ls.length (fun _=>True) (fun i=>[(5,.ref 8 0 0 (bD ls c i).length),(11,eI i)]) (fun i=>[(8,.row 0 ⟨1,false⟩ true ((bD ls c i).map eI))]) trivial ?_ rfl (fun i hi _=> ?_) (fun _=> ?_)
 . simp -dsimp -implicitDefEqProofs only [go_sem,bD,bu,eP]
 . have gi:=get_some hi;have hx:=hl _ (uq9 hi);have ho:=CR ls[i] c hx.1 hx.2.1 hx.2.2;have eg:ls.getD i []=ls[i]:=by rw [uq7,gi];rfl
   have hdl:=gu ls c i;rw [bD,eg];generalize bD ls c i=D at*;have tD:aW D.length (D.map eI)=D.map eI:=aP (by simp);generalize ls[i]=l at*;rcases hb:dU l c with _|_
   . rw [hb] at ho;rw [if_neg (by simp)];simp -dsimp -implicitDefEqProofs only [pz,cG,cH,bh,↓reduceIte,bK];simp -dsimp -implicitDefEqProofs only [go_sem,aE hi,gi];((with_reducible and_intros);all_goals try (omega));refine aa ho ?_;simp -dsimp -implicitDefEqProofs only [go_sem];((with_reducible and_intros);all_goals try first|(refine ⟨?_,?_⟩<;>omega)|exact rfl)
   rw [hb] at ho;rw [if_pos rfl,cj,iH,cK,List.length_singleton];simp -dsimp -implicitDefEqProofs only [pz,cG,cH,bh,↓reduceIte,bK];simp -dsimp -implicitDefEqProofs only [go_sem,aE hi,gi];((with_reducible and_intros);all_goals try (omega));refine aa ho ?_;simp -dsimp -implicitDefEqProofs only [go_sem,tD];((with_reducible and_intros);all_goals try first|omega|(refine ⟨?_,?_⟩<;>omega)|exact rfl)
 generalize hD:bD ls c ls.length=D at*;simp -dsimp -implicitDefEqProofs only [pz,cG,cH,bh,↓reduceIte,bK];simp -dsimp -implicitDefEqProofs only [go_sem,aA];all_goals first|(simp;done)|(first|omega|(refine ⟨?_,?_⟩<;>omega)|exact rfl|(simp;done)|skip)
theorem qL {m:aK} {t ab:lL} (hF:Mw m t ab) {c:lI} (hc:(c.length:Int)=m.af) (n:Nat):∀l∈ay m t ab n,c.length<=l.length/\l.length<=1048576/\∀x∈l,x.length<=1048576:=by intro l hl;obtain ⟨k,_,rfl⟩:=lP hl;obtain ⟨h1,h2⟩:=th hF k;have:=hF.num;exact ⟨by omega,by omega,fun x hx=>by have:=h2 x hx;omega⟩
def FV (m:aK) (t ab:lL) (c:lI):lI:=bD (ay m t ab (t.getD 0 []).length) c (t.getD 0 []).length
def BM (m:aK) (t ab:lL) (c:lI):lI × Int:=if bk m t ab=true then if fault m c=0 then (FV m t ab c,0) else ([],2) else ([],1)
theorem PX {m:aK} {t ab:lL} {c:lI}:(BM m t ab c).1.length<=12/\∀x∈(BM m t ab c).1,0<=x/\x<=1000000000000:=by
 unfold BM;split
 . rename_i h;obtain ⟨k1,k2,k3,k4,k5⟩:=iT (sZ h).1;split
   . refine ⟨Nat.le_trans (gu _ _ _) k4,fun x hx=> ?_⟩;have:=tv _ _ _ x hx;omega
   simp
 simp
theorem yB (m:aK) (t ab:lL) (h:t.length<=1048576) (h2:∀x∈t,x.length<=1048576) (h3:ab.length<=1048576) (h4:∀x∈ab,x.length<=1048576) (c:lI) (h5:c.length<=1048576):Fn pG 121 [jM m t,aR ab,aQ c] true (· = .aX [aQ (BM m t ab c).1,eI (BM m t ab c).2]):=by
 refine Fn.au 25 [.tmp 6,.tmp 7] func121 (hv:= ?_);have hc:=kf m t ab h h2 h3 h4;unfold BM;rcases hd:bk m t ab with _|_
 . rw [hd,if_neg (by simp)] at hc;rw [if_neg (by simp)];have e:((1:Int) != 0)=true:=rfl;simp -dsimp -implicitDefEqProofs only [go_sem];refine aa hc ?_;simp -dsimp -implicitDefEqProofs only [go_sem,e]
 rw [hd,if_pos rfl] at hc;have hF:=iX hd;have hk:=CQ m c hF.pF h5;have e:((0:Int) != 0)=false:=rfl;rw [if_pos rfl];by_cases hf:fault m c=0
 . have e2:fB m c=true:=beq_iff_eq.2 hf;rw [e2] at hk;rw [if_pos hf];have hcl:=(gq e2).1;have hp:=gp m t ab hF.pF hF.tl hF.le hF.t0 hF.row hF.wd hF.cut;have hll:(ay m t ab (t.getD 0 []).length).length=(t.getD 0 []).length:=by rw [ay,dt,cF]
   have ho:=l5 (ay m t ab (t.getD 0 []).length) c (by rw [hll];exact hF.wd) (qL hF hcl _);rw [hll] at ho;unfold FV;simp -dsimp -implicitDefEqProofs only [go_sem];refine aa hc ?_;simp -dsimp -implicitDefEqProofs only [go_sem,e];refine aa hk ?_;simp -dsimp -implicitDefEqProofs only [go_sem];refine av hp (by simp [ax,an,aq,aG]) ?_;simp -dsimp -implicitDefEqProofs only [go_sem];refine aa ho ?_;simp -dsimp -implicitDefEqProofs only [go_sem];all_goals first|(simp;done)|(first|omega|(refine ⟨?_,?_⟩<;>omega)|exact rfl|(simp;done)|skip)
 have e2:fB m c=false:=beq_eq_false_iff_ne.2 hf;rw [e2] at hk;rw [if_neg hf];simp -dsimp -implicitDefEqProofs only [go_sem];refine aa hc ?_;simp -dsimp -implicitDefEqProofs only [go_sem,e];refine aa hk ?_;simp -dsimp -implicitDefEqProofs only [go_sem]
theorem yC (m:aK) (t ab:lL) (hF:Mw m t ab) (c:lI) (hc:(c.length:Int)=m.af):Fn pG 150 [jM m t,aR ab,aQ c] true (· =aQ (FV m t ab c)):=by
 refine Fn.au 31 [.tmp 6] func150 (hv:= ?_);have hp:=kQ m t ab hF.pF (by have:=hF.tl;have:=hF.le;omega) hF.le hF.t0 hF.row (by have:=hF.wd;omega) fun x hx=>(hF.cut x hx).1;have hl:=qL hF hc (t.getD 0 []).length;have hll:(ay m t ab (t.getD 0 []).length).length=(t.getD 0 []).length:=by rw [ay,dt,cF]
 have hwd:=hF.wd;unfold FV;generalize ay m t ab (t.getD 0 []).length=ls at*;rw [←hll] at hwd ⊢;simp -dsimp -implicitDefEqProofs only [go_sem];refine av hp (by simp [ax,an,aq,aG]) ?_;simp -dsimp -implicitDefEqProofs only [go_sem];refine aj.up [2,7] [16,25,28,29] [13] ls.length (fun _=>True) (fun i=>[(8,.ref 13 0 0 (bD ls c i).length),(9,eI i)]) (fun i=>[(13,.row 0 ⟨1,false⟩ true ((bD ls c i).map eI))]) trivial ?_ rfl (fun i hi _=> ?_) (fun _=> ?_)
 . simp -dsimp -implicitDefEqProofs only [go_sem,bD,bu,eP]
 . have gi:=get_some hi;have hx:=hl _ (uq9 hi);have ho:=qE ls[i] c hx.1 hx.2.1 hx.2.2;have eg:ls.getD i []=ls[i]:=by rw [uq7,gi];rfl
   have hdl:=gu ls c i;rw [bD,eg];generalize bD ls c i=D at*;have tD:aW D.length (D.map eI)=D.map eI:=aP (by simp);generalize ls[i]=l at*;rcases hb:dU l c with _|_
   . rw [hb] at ho;rw [if_neg (by simp)];simp -dsimp -implicitDefEqProofs only [pz,cG,cH,bh,↓reduceIte,bK];simp -dsimp -implicitDefEqProofs only [go_sem,aE hi,gi];((with_reducible and_intros);all_goals try (omega));refine aa ho ?_;simp -dsimp -implicitDefEqProofs only [go_sem];((with_reducible and_intros);all_goals try first|(refine ⟨?_,?_⟩<;>omega)|exact rfl)
   rw [hb] at ho;rw [if_pos rfl,cj,iH,cK,List.length_singleton];simp -dsimp -implicitDefEqProofs only [pz,cG,cH,bh,↓reduceIte,bK];simp -dsimp -implicitDefEqProofs only [go_sem,aE hi,gi];((with_reducible and_intros);all_goals try (omega));refine aa ho ?_;simp -dsimp -implicitDefEqProofs only [go_sem,tD];((with_reducible and_intros);all_goals try first|omega|(refine ⟨?_,?_⟩<;>omega)|exact rfl)
 generalize hD:bD ls c ls.length=D at*;simp -dsimp -implicitDefEqProofs only [pz,cG,cH,bh,↓reduceIte,bK];simp -dsimp -implicitDefEqProofs only [go_sem,aA];all_goals first|(simp;done)|(first|omega|(refine ⟨?_,?_⟩<;>omega)|exact rfl|(simp;done)|skip)
theorem PY (m:aK) (t ab:lL) (h:t.length<=1048576) (h2:∀x∈t,x.length<=1048576) (h3:ab.length<=1048576) (h4:∀x∈ab,x.length<=1048576) (c:lI) (h5:c.length<=1048576):Fn pG 149 [jM m t,aR ab,aQ c] true (· =eI (BM m t ab c).2):=by
 refine Fn.au 21 [.tmp 6] func149 (hv:= ?_);have hc:=pE m t ab h h2 h3 h4;unfold BM;rcases hd:bk m t ab with _|_
 . rw [hd,if_neg (by simp)] at hc;rw [if_neg (by simp)];have e:((1:Int)==0)=false:=rfl;simp -dsimp -implicitDefEqProofs only [go_sem];refine aa hc ?_;simp -dsimp -implicitDefEqProofs only [go_sem,e]
 rw [hd,if_pos rfl] at hc;have hF:=iX hd;have hk:=nr m c hF.pF h5;have e:((0:Int)==0)=true:=rfl;rw [if_pos rfl];by_cases hf:fault m c=0
 . have e3:((0:Int) != 0)=false:=rfl;rw [hf] at hk;rw [if_pos hf];simp -dsimp -implicitDefEqProofs only [go_sem];refine aa hc ?_;simp -dsimp -implicitDefEqProofs only [go_sem,e];refine aa hk ?_;simp -dsimp -implicitDefEqProofs only [go_sem,e3]
 have e3:(fault m c != 0)=true:=bne_iff_ne.2 hf;rw [if_neg hf];simp -dsimp -implicitDefEqProofs only [go_sem];refine aa hc ?_;simp -dsimp -implicitDefEqProofs only [go_sem,e];refine aa hk ?_;simp -dsimp -implicitDefEqProofs only [go_sem,e3]
theorem yD (m:aK) (t ab:lL) (h:t.length<=1048576) (h2:∀x∈t,x.length<=1048576) (h3:ab.length<=1048576) (h4:∀x∈ab,x.length<=1048576) (c:lI) (h5:c.length<=1048576):Fn pG 104 [jM m t,aR ab,aQ c] true (· = .aX [aQ (BM m t ab c).1,eI (BM m t ab c).2]):=by
 refine Fn.au 20 [.tmp 6,.tmp 7] func104 (hv:= ?_);have hc:=PY m t ab h h2 h3 h4 c h5;unfold BM at hc ⊢;rcases hd:bk m t ab with _|_
 . rw [hd,if_neg (by simp)] at hc;rw [if_neg (by simp)];have e:((1:Int) != 0)=true:=rfl;simp -dsimp -implicitDefEqProofs only [go_sem];refine aa hc ?_;simp -dsimp -implicitDefEqProofs only [go_sem,e]
 rw [hd,if_pos rfl] at hc;have hF:=iX hd;rw [if_pos rfl];by_cases hf:fault m c=0
 . have e:((0:Int) != 0)=false:=rfl;rw [if_pos hf] at hc ⊢;have hD:=yC m t ab hF c (gq (beq_iff_eq.2 hf)).1;simp -dsimp -implicitDefEqProofs only [go_sem];refine aa hc ?_;simp -dsimp -implicitDefEqProofs only [go_sem,e];refine aa hD ?_;simp -dsimp -implicitDefEqProofs only [go_sem];all_goals first|(simp;done)|(first|omega|(refine ⟨?_,?_⟩<;>omega)|exact rfl|(simp;done)|skip)
 have e:((2:Int) != 0)=true:=rfl;rw [if_neg hf] at hc ⊢;simp -dsimp -implicitDefEqProofs only [go_sem];refine aa hc ?_;simp -dsimp -implicitDefEqProofs only [go_sem,e]
def Du (ks:lL) (k:lI):Bool:=ks.any fun x=>decide (x=k)
theorem PZ {ks:lL} {k:lI} (h:∀i (hi:i<ks.length),decide (ks[i]=k)=false):Du ks k=false:=by unfold Du;rw [List.any_eq_false];intro x hx;obtain ⟨i,hi,rfl⟩:=List.getElem_of_mem hx;rw [h i hi];simp
theorem JS {ks:lL} {k:lI} {i:Nat} (hi:i<ks.length) (h:decide (ks[i]=k)=true):Du ks k=true:=by unfold Du;rw [List.any_eq_true];exact ⟨_,uq9 hi,h⟩
theorem P0 (ks:lL) (k:lI) (h:ks.length<=1048576) (h2:∀x∈ks,x.length<=1048576):Fn pG 193 [aR ks,aQ k] true (· =eB (Du ks k)):=by
 refine Fn.au 18 [.tmp 4] func193 (hv:= ?_);simp -dsimp -implicitDefEqProofs only [go_sem];refine aj.up [0,1] [8,17] [] ks.length (fun i=>∀j (hj:j<ks.length),j<i->decide (ks[j]=k)=false) (fun i=>[(5,eI i)]) (fun _=>[]) (fun j _ h=>absurd h (gW _)) ?_ rfl (fun i hi hI=> ?_) (fun hI=> ?_)
 . simp -dsimp -implicitDefEqProofs only [go_sem]
 . have gi:=get_some hi;have hc:=Ms ks[i] k (by have:=h2 _ (uq9 hi);omega);rcases hv:decide (ks[i]=k) with _|_
   . rw [hv] at hc;have hI':∀j (hj:j<ks.length),j<i+1->decide (ks[j]=k)=false:=fun j hj h=>by
      by_cases hji:j=i
      . subst hji;exact hv
      exact hI j hj (by omega)
     clear hI hv;generalize ks[i]=x at*;simp -dsimp -implicitDefEqProofs only [pz,↓reduceIte,bK];simp -dsimp -implicitDefEqProofs only [go_sem,gi,aE hi];((with_reducible and_intros);all_goals try (omega));refine aa hc ?_;simp -dsimp -implicitDefEqProofs only [go_sem];((with_reducible and_intros);all_goals try first|omega|(refine ⟨?_,?_⟩<;>omega)|exact rfl)
   rw [hv] at hc;rw [JS hi hv];clear hI hv;generalize ks[i]=x at*;simp -dsimp -implicitDefEqProofs only [pz,↓reduceIte,bK];simp -dsimp -implicitDefEqProofs only [go_sem,gi,aE hi];((with_reducible and_intros);all_goals try (omega));refine aa hc ?_;simp -dsimp -implicitDefEqProofs only [go_sem]
 rw [PZ fun j hj=>hI j hj hj];simp -dsimp -implicitDefEqProofs only [pz,↓reduceIte,bK];simp -dsimp -implicitDefEqProofs only [go_sem,aA]
theorem yE (ks:lL) (k:lI) (h:ks.length<=1048576) (h2:∀x∈ks,x.length<=1048576):Fn pG 224 [aR ks,aQ k] true (· =eB (Du ks k)):=by
 refine Fn.au 8 [.tmp 4] func224 (hv:= ?_);have y2:(∀i (hi:i<ks.length),decide (ks[i]=k)=false)->Du ks k=false:=fun h=>PZ h;have hno:∀i (hi:i<ks.length),decide (ks[i]=k)=true->Du ks k=true:=fun i hi h=>JS hi h;generalize Du ks k=ok at y2 hno;simp -dsimp -implicitDefEqProofs only [go_sem];refine ca 400000 9 [.tmp 4] func74 rfl rfl rfl rfl rfl (by exact oT rfl) ?_;simp -dsimp -implicitDefEqProofs only [go_sem];refine ca 410000 19 [.tmp 4] func89 rfl rfl rfl rfl rfl (by exact oT rfl) ?_;simp -dsimp -implicitDefEqProofs only [go_sem];refine aj.up [0,1,7] [16] [] ks.length (fun i=>∀j (hj:j<ks.length),j<i->decide (ks[j]=k)=false) (fun i=>[(8,eI i)]) (fun _=>[]) (fun j _ h=>absurd h (gW _)) ?_ rfl (fun i hi hI=> ?_) (fun hI=> ?_)
 . simp -dsimp -implicitDefEqProofs only [go_sem]
 . have gi:=get_some hi;have li:=aE hi;have hc:=FA ks[i] k (by have:=h2 _ (uq9 hi);omega);rcases hv:decide (ks[i]=k) with _|_
   . rw [hv] at hc;have hI':∀j (hj:j<ks.length),j<i+1->decide (ks[j]=k)=false:=fun j hj h=>by
      by_cases hji:j=i
      . subst hji;exact hv
      exact hI j hj (by omega)
     clear hno y2 hI hv;generalize ks[i]=x at*;simp -dsimp -implicitDefEqProofs only [pz,cG,cH,bh,↓reduceIte,bK];simp -dsimp -implicitDefEqProofs only [go_sem,gi,li];refine ⟨⟨by omega,by omega⟩,?_⟩;refine ca 420000 7 [.tmp 3] func263 rfl rfl rfl rfl rfl (by exact oT rfl) ?_;simp -dsimp -implicitDefEqProofs only [go_sem]
     repeat' first
      |(with_reducible refine ai ?_ ?_)
      |(refine aa (hc) ?_;try simp -dsimp -implicitDefEqProofs only [go_sem, *])
     (all_goals try first|omega|(refine ⟨?_,?_⟩<;>omega)|exact rfl|(simp;done))
   rw [hv] at hc;have hn:=hno i hi hv;clear hno y2 hI hv;subst hn;generalize ks[i]=x at*;simp -dsimp -implicitDefEqProofs only [pz,cG,cH,bh,↓reduceIte,bK];simp -dsimp -implicitDefEqProofs only [go_sem,gi,li];refine ⟨⟨by omega,by omega⟩,?_⟩;refine ca 420000 7 [.tmp 3] func263 rfl rfl rfl rfl rfl (by exact oT rfl) ?_;simp -dsimp -implicitDefEqProofs only [go_sem];repeat' (refine aa (hc) ?_;try simp -dsimp -implicitDefEqProofs only [go_sem, *])
   (all_goals try first|exact rfl|(simp;done))
 have hn:=y2 fun j hj=>hI j hj hj;clear hno y2 hI;subst hn;simp -dsimp -implicitDefEqProofs only [pz,cG,cH,bh,↓reduceIte,bK];simp -dsimp -implicitDefEqProofs only [go_sem,aA];(all_goals try first|exact rfl|(simp;done))
def FW (ls:List lL) (k:lI) (n:Nat):Bool:=(ls.take n).any fun l=>dU l k
theorem BN {ls:List lL} {k:lI} {n:Nat} (h:n<ls.length):FW ls k (n+1)=(FW ls k n||dU ls[n] k):=by unfold FW;rw [du h,List.any_append];simp
def JT (ls:List lL) (ab:lL) (k:lI):Bool:=FW ls k ls.length&& !Du ab k
def SR (m:aK) (t ab:lL) (i:Nat):lL:=((bx m).take i).filter (JT (ay m t ab (t.getD 0 []).length) ab)
def cg (m:aK) (t ab:lL):lL:=(bx m).filter (JT (ay m t ab (t.getD 0 []).length) ab)
theorem P1 {m:aK} {t ab:lL} {i:Nat} {k:lI} (h:(bx m)[i]? =some k):SR m t ab (i+1)=SR m t ab i++if JT (ay m t ab (t.getD 0 []).length) ab k=true then [k] else []:=by unfold SR;rw [List.take_add_one,h,List.filter_append];congr 1;simp only [Dl,List.filter_cons,List.filter_nil]
theorem JU (m:aK) (t ab:lL):SR m t ab (bx m).length=cg m t ab:=by unfold SR cg;rw [bd]
theorem Mx {m:aK} (hm:aY m=true):(bx m).length<=262144:=by have ⟨⟨n1,n2⟩,n3,n4⟩:=aM hm;have:(bx m).length<=8^6:=Nat.le_trans (ke m hm _ _) (Nat.pow_le_pow_right (by decide) (by omega));omega
theorem JV {m:aK} (hm:aY m=true) (t ab:lL) (i:Nat):(SR m t ab i).length<=262144:=by unfold SR;refine Nat.le_trans (List.length_filter_le ..) ?_;have:=Mx hm;rw [List.length_take];omega
theorem qM {m:aK} (hm:aY m=true) (t ab:lL):(cg m t ab).length<=262144:=by rw [←JU];exact JV hm t ab _
theorem oY (m:aK) (t ab:lL) (hF:Mw m t ab):Fn pG 142 [jM m t,aR ab,eB true] false (· =aR (cg m t ab)):=by
 refine Fn.yz (Fn.mono (post:=fun x=>sJ x (aR (cg m t ab))) (Fn.cf 60 [.tmp 6] func142 (hv:= ?_)) fun x hx=>⟨_,hx,rfl⟩);have hp:=kQ m t ab hF.pF (by have:=hF.tl;have:=hF.le;omega) hF.le hF.t0 hF.row (by have:=hF.wd;omega) fun x hx=>(hF.cut x hx).1;have ko:=hF.pF;have vC:=hF.num;obtain ⟨k0,hk1,hf⟩:=yq ko;have hK:=fun k (hk:k∈bx m)=>kg (m:=m) (by omega) hk;have hH:=fun k=>P0 ab k (by have:=hF.tl;have:=hF.le;omega) (fun x hx=>by have:=(hF.cut x hx).1;omega);have hO:=fun (k:lI) (hk:(k.length:Int)=m.af)=>qL hF hk (t.getD 0 []).length;have hll:(ay m t ab (t.getD 0 []).length).length<=1000:=by rw [ay,dt,cF];exact hF.wd
 have MW:=fun i k=>@P1 m t ab i k;have hgl:=fun i=>JV ko t ab i;have hge:=JU m t ab;have hg0:SR m t ab 0=[]:=rfl;generalize SR m t ab=G at*;generalize ay m t ab (t.getD 0 []).length=ls at*;simp -dsimp -implicitDefEqProofs only [go_sem];refine av hp (by simp [ax,an,aq,aG]) ?_;simp -dsimp -implicitDefEqProofs only [go_sem];refine av hf (by simp [ax,an,aq,aG]) ?_;simp -dsimp -implicitDefEqProofs only [go_sem];refine aj.up [1,2,3,8] [26,37,45,50,51,56] [13] (bx m).length (fun i=>True) (fun i=>[(10,eB ((bx m)[i]?).isSome),(9,Md ((bx m)[i]?)),(7,.ref 13 0 0 (G i).length)]) (fun i=>[(13,.row 0 ⟨1,false⟩ (G i).isEmpty ((G i).map aQ))]) trivial ?_ rfl (fun i hi _=> ?_) (fun _=> ?_)
 . rw [hk1,hg0];simp -dsimp -implicitDefEqProofs only [go_sem,cZ,Option.isSome_some,List.isEmpty_nil,eP,bu]
 . have gi:=get_some hi;have hki:=hK _ (uq9 hi);generalize (bx m)[i]=k at*;have hs:=MW i k gi;have YN:=hgl i;have hnx:=s5 m k ko hki.len hki.el;rw [yo (by omega) gi] at hnx;have hE:∀C:lL,C.isEmpty=false\/C.length=0:=fun C=>by cases C with|nil=>exact .inr rfl|cons=>exact .inl rfl
   have e2:=fun K:lL=>show (K++[k]).map aQ=K.map aQ++[aQ k] by simp
   have e3:=fun K:lL=>show (K++[k]).isEmpty=false by simp
   have hkl:=hO k hki.len;have hhk:=hH k;clear MW hgl hO hH;generalize G i=K at*;generalize G (i+1)=K2 at*;rw [gi];generalize (bx m)[i+1]? =o at*;rw [CU] at hnx;clear hK;have tK:(K.map aQ).take K.length=K.map aQ:=aP (by simp);simp -dsimp -implicitDefEqProofs only [pz,cG,cH,bh,↓reduceIte,bK];simp -dsimp -implicitDefEqProofs only [go_sem,cZ,Option.isSome_some];refine aj.up [1,2,3,7,8,9] [26,37] [] ls.length (fun _=>True) (fun j=>[(12,eI j),(11,eB (FW ls k j))]) (fun _=>[]) trivial ?_ rfl (fun j hj _=> ?_) (fun _=> ?_)
   . simp -dsimp -implicitDefEqProofs only [go_sem];(all_goals try (exact rfl))
   . have gj:=get_some hj;have lj:=aE hj;have hx:=hkl _ (uq9 hj);have hop:=qE ls[j] k hx.1 hx.2.1 hx.2.2;rw [BN hj];generalize ls[j]=l at*;rcases hb:FW ls k j with _|_
     . rw [Bool.false_or];generalize dU l k=b at*;simp -dsimp -implicitDefEqProofs only [pz,cG,cH,bh,↓reduceIte,bK];simp -dsimp -implicitDefEqProofs only [go_sem,lj,gj];((with_reducible and_intros);all_goals try (omega));refine aa hop ?_;simp -dsimp -implicitDefEqProofs only [go_sem];((with_reducible and_intros);all_goals try first|(refine ⟨?_,?_⟩<;>omega)|exact rfl)
     rw [Bool.true_or];simp -dsimp -implicitDefEqProofs only [pz,cG,cH,bh,↓reduceIte,bK];simp -dsimp -implicitDefEqProofs only [go_sem,lj];((with_reducible and_intros);all_goals try first|(refine ⟨?_,?_⟩<;>omega)|exact rfl)
   unfold JT at hs;rcases hb:FW ls k ls.length with _|_
   . rw [hb,uq1,if_neg (by simp),List.append_nil] at hs;subst hs;have ebf:(false==true)=false:=rfl;simp -dsimp -implicitDefEqProofs only [pz,cG,cH,bh,↓reduceIte,bK];simp -dsimp -implicitDefEqProofs only [go_sem,aA,ebf];refine av hnx (by simp [ax,an,aq,aG]) ?_;cases o with
     |some k2=>
      simp -dsimp -implicitDefEqProofs only [go_sem,cZ,Option.isSome_some]
     |none=>
      simp -dsimp -implicitDefEqProofs only [go_sem,fM,Option.isSome_none]
   rw [hb,uq3] at hs;have ebt:(true==true)=true:=rfl;rcases hin:Du ab k with _|_
   . rw [hin,if_pos (by simp)] at hs;rw [hin] at hhk;subst hs;simp -dsimp -implicitDefEqProofs only [pz,cG,cH,bh,↓reduceIte,bK];simp -dsimp -implicitDefEqProofs only [go_sem,aA,ebt];refine aa hhk ?_;simp -dsimp -implicitDefEqProofs only [go_sem];refine .inr ⟨by omega,hE K,?_⟩;rw [←e2];refine av hnx (by simp [ax,an,aq,aG]) ?_;cases o with
     |some k2=>
      simp -dsimp -implicitDefEqProofs only [go_sem,cZ,Option.isSome_some,e3,e2]
     |none=>
      simp -dsimp -implicitDefEqProofs only [go_sem,fM,Option.isSome_none,e3,e2]
   rw [hin,if_neg (by simp),List.append_nil] at hs;rw [hin] at hhk;subst hs;simp -dsimp -implicitDefEqProofs only [pz,cG,cH,bh,↓reduceIte,bK];simp -dsimp -implicitDefEqProofs only [go_sem,aA,ebt];refine aa hhk ?_;simp -dsimp -implicitDefEqProofs only [go_sem];refine av hnx (by simp [ax,an,aq,aG]) ?_;cases o with
   |some k2=>
    simp -dsimp -implicitDefEqProofs only [go_sem,cZ,Option.isSome_some]
   |none=>
    simp -dsimp -implicitDefEqProofs only [go_sem,fM,Option.isSome_none]
 rw [hge];have hn:(bx m)[(bx m).length]? =none:=by simp
 rw [hn];generalize cg m t ab=K at*;simp -dsimp -implicitDefEqProofs only [pz,cG,cH,bh,↓reduceIte,bK];simp -dsimp -implicitDefEqProofs only [go_sem,fM,Option.isSome_none]
theorem yF (m:aK) (t ab:lL) (h:t.length<=1048576) (h2:∀x∈t,x.length<=1048576) (h3:ab.length<=1048576) (h4:∀x∈ab,x.length<=1048576):Fn pG 98 [jM m t,aR ab] true (· = .aX [eI (if bk m t ab=true then (cg m t ab).length else 0),eI (if bk m t ab=true then 0 else 1)]):=by
 refine Fn.au 17 [.tmp 4,.tmp 5] func98 (hv:= ?_);have hc:=pE m t ab h h2 h3 h4;rcases hd:bk m t ab with _|_
 . rw [hd,if_neg (by simp)] at hc;rw [if_neg (by simp),if_neg (by simp)];have e:((1:Int) != 0)=true:=rfl;simp -dsimp -implicitDefEqProofs only [go_sem];refine aa hc ?_;simp -dsimp -implicitDefEqProofs only [go_sem,e]
 rw [hd,if_pos rfl] at hc;rw [if_pos rfl,if_pos rfl];have ho:=oY m t ab (iX hd);have e:((0:Int) != 0)=false:=rfl;simp -dsimp -implicitDefEqProofs only [go_sem];refine aa hc ?_;simp -dsimp -implicitDefEqProofs only [go_sem,e];refine av ho (by simp [ax,an,aq,aG]) ?_;simp -dsimp -implicitDefEqProofs only [go_sem]
open Go.RowKit
theorem SU (w:World) (ad:Option Addr) (n cap:Nat):CallsIn Fence.wide 1 pG 173 #[.slice ad n cap] w fun e w'=>e= .returned (.func (.func 225) #[] #[.pointer (some ⟨w.heap.size,0,none⟩)])/\w'=w.alloc (.cells #[.slice ad n cap] 164):=by
 refine callsIn_of_wp func173 rfl trivial ?_ rfl;simp only [Tryz.ntmps173,List.size_toArray,dB,bu,bh,Nat.reduceSub,Array.replicate_succ,Array.replicate_zero,List.push_toArray,List.append_toArray,List.nil_append,List.cons_append]
 gi_wp2
 go_ret
 exact ⟨rfl,rfl⟩
theorem P2 (l pb po n cap:Nat) (ad:Option Addr) (b2 o2:Nat) (f:Nat->Option Addr × Nat × Nat) (S:Nat->Prop) (J Jx:List (Fin n)->World->Prop) (W0:World)
 (hS:S pb/\(n=0\/S b2)) (hn:n<=1048576)
 (h1:W0.cell? ⟨pb,po,none⟩=some (.slice ad n cap)) (h2:n=0\/ad=some ⟨b2,o2,none⟩) (h3:∀i,i<n->W0.cell? ⟨b2,o2+i,none⟩=some (.slice (f i).1 (f i).2.1 (f i).2.2))
 (hY:∀pre (x:Fin n) W1,J pre W1->pre.length<n->YieldAt Fence.wide 0 pG l #[.int .i64 ((n-1-x.1:Nat):Int),.slice (f (n-1-x.1)).1 (f (n-1-x.1)).2.1 (f (n-1-x.1)).2.2] W1 fun e W'=>
   (e= .returned (.bool true)/\J (pre++[x]) W'/\∀b,S b->W'.heap[b]? =W1.heap[b]?)\/(e= .returned (.bool false)/\Jx (pre++[x]) W'))
 (h0:J [] W0):CallsIn Fence.wide 0 pG 225 #[.func (.yield l) #[] #[],.pointer (some ⟨pb,po,none⟩)] W0 fun e W'=>(∃v,e= .returned v)/\((∃xs,xs=List.finRange n/\J xs W')\/(∃pre,True/\Jx pre W')):=by
 refine callsIn_of_wp func225 rfl trivial ?_ rfl;simp only [Tryz.ntmps225,List.size_toArray,dB,bu,bh,Nat.reduceSub,Array.replicate_succ,Array.replicate_zero,List.push_toArray,List.append_toArray,List.nil_append,List.cons_append]
 gi_wp2
 gi_loopw [3] (fun v wr=>∃k:Nat,k<=n/\v= .int .i64 ((n:Int)-1-k)/\J ((List.finRange n).take k) wr/\∀b,S b->wr.heap[b]? =W0.heap[b]?)
  (fun v _=>((RowKit.intOf v)+1).toNat)
 case atStart=>exact ⟨0,Nat.zero_le _,by simp,by simpa using h0,fun _ _=>rfl⟩
 case round=>
  obtain ⟨k,hk,rfl,hJ,iY⟩:=hrel;have hc:wr.cell? ⟨pb,po,none⟩=some (.slice ad n cap):=(World.cell?_of_block (iY pb hS.1)).trans h1;by_cases hlt:k<n
  . obtain ⟨i,hi⟩:∃i:Nat,i=n-1-k:=⟨_,rfl⟩;have hi2:(n:Int)-1-k=(i:Int):=by omega
    have hin:i<n:=by omega
    have hb2:S b2:=hS.2.resolve_left (by omega);obtain rfl:=h2.resolve_left (by omega);have hc2:wr.cell? ⟨b2,o2+i,none⟩=some (.slice (f i).1 (f i).2.1 (f i).2.2):=(World.cell?_of_block (iY b2 hb2)).trans (h3 i hin);have hY2:=hY ((List.finRange n).take k) ⟨k,hlt⟩ wr hJ (by simp;omega);rw [←hi] at hY2;rw [hi2];generalize (f i).1=f1 at hY2 hc2;generalize (f i).2.1=f2 at hY2 hc2;generalize (f i).2.2=f3 at hY2 hc2;have HD:Hid (i=n-1-k):=hi;clear h1 h3 hY hi hi2 hk;obtain ⟨fn,tmps,assign,body,hy,hR⟩:=hY2
    gi_wp2
    refine ⟨rfl,hR.mono ?_⟩;rintro e W3 (⟨rfl,hJ3,hk3⟩|⟨rfl,YO⟩)
    . gi_wp2
      have hd:=HD.out;have ht:(List.finRange n).take (k+1)=(List.finRange n).take k++[⟨k,hlt⟩]:=by rw [List.take_add_one,uq8 (by simpa using hlt)];simp
      refine ⟨⟨k+1,hlt,?_,by rw [ht];exact hJ3,fun b hb=>(hk3 b hb).trans (iY b hb)⟩,?_⟩
      . rw [show ((i:Int)-1)=(n:Int)-1-((k+1:Nat):Int) by omega]
      simp only [RowKit.intOf];omega
    gi_wp2
    refine bodyPost_ret (results_none rfl _ _ _) rfl ?_;exact ⟨⟨_,rfl⟩,.inr ⟨_,trivial,YO⟩⟩
  have hkn:k=n:=by omega
  have hi2:(n:Int)-1-k= -1:=by omega
  rw [hi2]
  gi_wp2
  go_end0
  rw [hkn,aP (by simp)] at hJ;exact ⟨⟨_,rfl⟩,.inl ⟨_,rfl,hJ⟩⟩
def gI (zs:lA):List (AV × AV):=(bO zs.length).reverse.map fun (i:Nat)=>(eI (i:Int),zs.getD i .undef)
theorem pH (zs:lA):(gI zs).length=zs.length:=by simp [gI]
theorem BO (zs:lA) (i:Fin (gI zs).length):(gI zs)[i]=(eI ((zs.length-1-i.1:Nat):Int),zs.getD (zs.length-1-i.1) .undef):=by have hi:i.1<zs.length:=Nat.lt_of_lt_of_eq i.2 (pH zs);show (gI zs)[i.1]=_;simp [gI,List.getElem_reverse]
theorem IH (zs:lA):Fn pG 173 [.arr ⟨1,false⟩ zs] false (fun r=>r= .cm 225 [.bq ⟨1,false⟩ [.arr ⟨1,false⟩ zs] 0 0]):=by
 refine ⟨⟨_,_,func173,rfl,rfl⟩,fun w S vs hS hk hsz hrd=> ?_⟩;have h0:=hrd 0 (by simp)
 obtain ⟨v,rfl⟩:∃v,vs= #[v]:=⟨vs[0]'(by rw [hsz];simp),by
  refine Array.ext (by simp [hsz]) fun i h1 h2=> ?_;have:i=0:=by simp at h2;omega
  subst this;rfl⟩
 have h0:Rd w S (.arr ⟨1,false⟩ zs) v:=h0;have key:∀ad n cap,v= .slice ad n cap->Calls pG 173 #[v] w fun e w'=>∃r v,e= .returned v/\r=AV.cm 225 [.bq ⟨1,false⟩ [.arr ⟨1,false⟩ zs] 0 0]/\Grown w w'/\iK w w' S false r v:=by
  rintro ad n cap rfl;refine (callsIn_wide.1 (SU w ad n cap)).mono ?_;rintro e w' ⟨rfl,rfl⟩;have hb:(w.alloc (.cells #[.slice ad n cap] 164)).heap[w.heap.size]? =some (.cells #[.slice ad n cap] 164 (0,0)):=World.alloc_heap_new w _;have hg:Grown w (w.alloc (.cells #[.slice ad n cap] 164)):=⟨by simp,fun b hb=>Below.heap_alloc _ _ b hb,⟨rfl,rfl,rfl⟩⟩;refine ⟨_,_,rfl,rfl,hg,?_⟩;show Rd _ _ _ _;refine .cm _ _ _ rfl fun i hi=> ?_;have:i=0:=by simp at hi;omega
  subst this
  have hr:Rd (w.alloc (.cells #[.slice ad n cap] 164)) (fun b=>S b\/(w.heap.size<=b/\b<(w.alloc (.cells #[.slice ad n cap] 164)).heap.size)) (.arr ⟨1,false⟩ zs) (.slice ad n cap):=
   h0.mono (fun b hb=>hg.same b (hS b hb)) fun b hb=>.inl hb
  refine .bq ⟨1,false⟩ [.arr ⟨1,false⟩ zs] 0 0 w.heap.size 0 #[.slice ad n cap] _ _ (.inr ⟨fH _,by simp⟩) hb (by simp) (fun i hi=> ?_) fun i hi=> ?_
  . have:i=0:=by simp at hi;omega
    subst this;exact ⟨rfl,rfl⟩
  have:i=0:=by simp at hi;omega
  subst this;exact hr
 cases h0 with
 |nil sh a=>exact key _ _ _ rfl
 |arr sh xs b off cap cs e fr=>exact key _ _ _ rfl
theorem C0 (zs zs2:lA) (hl2:zs2.length=zs.length) (hz:∀i (h:i<zs.length) (h2:i<zs2.length),∃ws,zs2[i]= .arr ⟨1,false⟩ ws/\(zs[i]=zs2[i]\/(zs[i]= .val (.slice none 0 0)/\ws=[]))) (hn:zs.length<=1048576):
 TY pG 225 [.bq ⟨1,false⟩ [.arr ⟨1,false⟩ zs] 0 0] (gI zs2):=by
 refine ⟨Go.Proofs.enters_of func225 (by kernel_rfl) rfl,fun w S cs hS hcs hrd=> ?_⟩;have h0:=hrd 0 (by simp)
 obtain ⟨p,rfl⟩:∃v,cs= #[v]:=⟨cs[0]'(by rw [hcs];simp),by
  refine Array.ext (by simp [hcs]) fun i h1 h2=> ?_;have:i=0:=by simp at h2;omega
  subst this;rfl⟩
 have h0:Rd w S (.bq ⟨1,false⟩ [.arr ⟨1,false⟩ zs] 0 0) p:=h0;obtain ⟨b,off,cs1,e1,fr1,hSb,hb,hl,hv,rfl⟩:∃b off cs1 e1 fr1,S b/\w.heap[b]? =some (.cells cs1 e1 fr1)/\off<cs1.size/\Rd w S (.arr ⟨1,false⟩ zs) (cs1.toList.getD off Go.undef)/\p= .pointer (some ⟨b,off,none⟩):=by
  cases h0 with
  |bq _ _ _ _ b off cs1 e1 fr1 hS' hb hl hf hv=>
   refine ⟨b,off,cs1,e1,fr1,hS',hb,?_,?_,by simp⟩
   . simp at hl;omega
   have:=hv 0 (by simp);simpa [elemV] using this
 have GA:w.cell? ⟨b,off,none⟩=some (cs1.toList.getD off Go.undef):=by simp [World.cell?,hb,uq7,hl]
 have key:∀(ad:Option Addr) (cap:Nat) (b2 o2:Nat),cs1.toList.getD off Go.undef= .slice ad zs.length cap->(zs.length=0\/S b2)->(zs.length=0\/ad=some ⟨b2,o2,none⟩)→
  (∀i (h:i<zs.length),∃u,w.cell? ⟨b2,o2+i,none⟩=some u/\Rd w S zs[i] u)->∃vs:Fin (gI zs2).length->Value × Value,(∀i,Rd w S (gI zs2)[i].1 (vs i).1/\Rd w S (gI zs2)[i].2 (vs i).2)∧
  SeqStopsK Fence.wide 0 pG 225 #[.pointer (some ⟨b,off,none⟩)] (fun i=> #[(vs i).1,(vs i).2]) (fun A B=>∀b,S b->B.heap[b]? =A.heap[b]?) (fun l=>l=List.finRange (gI zs2).length) (fun _=>True) (gI zs2).length w:=by
  intro ad cap b2 o2 hsv XC had hcl;have:∀i,∃q:Option Addr × Nat × Nat,∀(h:i<zs.length) (h2:i<zs2.length),w.cell? ⟨b2,o2+i,none⟩=some (.slice q.1 q.2.1 q.2.2)/\Rd w S zs2[i] (.slice q.1 q.2.1 q.2.2):=by
   intro i;by_cases h:i<zs.length
   . obtain ⟨u,h1,h2⟩:=hcl i h;obtain ⟨ws,hw,hw2⟩:=hz i h (by omega);rcases hw2 with hw2|⟨hw2,hws⟩
     . rw [hw2,hw] at h2;cases h2 with
       |nil sh a=>exact ⟨(a,0,0),fun _ _=>⟨h1,by rw [hw];exact .nil _ _⟩⟩
       |arr sh xs b3 o3 c3 cs3 e3 f3 q1 q2 q3 q4 q5 q6=>exact ⟨(some ⟨b3,o3,none⟩,_,c3),fun _ _=>⟨h1,by rw [hw];exact .arr _ _ b3 o3 c3 cs3 e3 f3 q1 q2 q3 q4 q5 q6⟩⟩
     rw [hw2] at h2;cases h2 with
     |val _ _=>exact ⟨(none,0,0),fun _ _=>⟨h1,by rw [hw,hws];exact .nil _ _⟩⟩
   exact ⟨(none,0,0),fun h'=>absurd h' h⟩
  obtain ⟨f,hf⟩:=Classical.axiomOfChoice this;have hlen:=pH zs2;refine ⟨fun x=>(.int .i64 (((gI zs2).length-1-x.1:Nat):Int),.slice (f ((gI zs2).length-1-x.1)).1 (f ((gI zs2).length-1-x.1)).2.1 (f ((gI zs2).length-1-x.1)).2.2),fun i=> ?_,fun l J Jx W hW hJ hJx hY h0=> ?_⟩
  . have hi:(gI zs2).length-1-i.1<zs2.length:=by have:=i.2;omega
    have e:zs2.length-1-i.1=(gI zs2).length-1-i.1:=by omega
    rw [BO,e];refine ⟨.val _ rfl,?_⟩;have:=(hf _ (by omega) hi).2;simp only [uq7,uq8 hi];exact this
  have XD:∀q,S q->W.heap[q]? =w.heap[q]? :=fun q hq=>hW.block q (hS q hq);refine P2 l b off (gI zs2).length cap ad b2 o2 f S J Jx W ⟨hSb,by rw [hlen,hl2];exact XC⟩ (by rw [hlen,hl2];exact hn) ?_ (by rw [hlen,hl2];exact had) (fun i hi=> ?_) hY h0
  . rw [World.cell?_of_block (XD b hSb),GA,hsv,hlen,hl2]
  have hi':i<zs.length:=by rw [←hl2,←hlen];exact hi
  rw [World.cell?_of_block (XD b2 (XC.resolve_left (by omega)))];exact (hf i hi' (by omega)).1
 generalize hq:cs1.toList.getD off Go.undef=q at hv key;cases hv with
 |nil sh a=>exact key a 0 0 0 rfl (.inl rfl) (.inl rfl) fun i h=>absurd h (gW _)
 |arr sh xs b2 o2 cap cs2 e2 fr2 h1 h2 h3 h4 h5 h6=>
  refine key _ cap b2 o2 rfl (.inr h1) (.inr rfl) fun i h=>⟨_,?_,h6 i h⟩;simp at h4;have:o2+i<cs2.size:=by omega
  simp [World.cell?,h2,elemV,uq7,this]
theorem FX {σ:Type} {m:aK} {f:σ->lI->σ × Bool} {J:Nat->σ->Prop} (mono:∀a b s,a<=b->J a s->J b s) {n:Nat} {c:lI} (hc:∀(c':lI) (t:KS σ) (b:Nat),J b t.s->J (b+8^n) (bp m f n c' t).1.s) (t:KS σ) (b:Nat) (h:J b t.s):
 ∀D:Nat,J (b+D*8^n) (eC (aT m f n c) t D).1.s
 |0=>by rw [Nat.zero_mul,Nat.add_zero];exact h
 |D+1=>by
  have ih:=FX mono hc t b h D (c:=c);have hle:b+D*8^n<=b+(D+1)*8^n:=Nat.add_le_add_left (Nat.mul_le_mul_right _ (Nat.le_succ D)) b;by_cases hb:(eC (aT m f n c) t D).2=true
  . rw [iU hb];generalize (eC (aT m f n c) t D).1=u at*;unfold aT;split
    . split
      . have:=hc (c++[(D:Int)]) ⟨u.ae+1,u.zs.take c.length++[(D:Int)],u.s⟩ _ ih;rw [Nat.succ_mul,←Nat.add_assoc];exact this
      exact mono _ _ _ hle ih
    exact mono _ _ _ hle ih
  rw [eC,if_neg hb];exact mono _ _ _ hle ih
theorem yG {σ:Type} {m:aK} (hm:aY m=true) {f:σ->lI->σ × Bool} {J:Nat->σ->Prop} (mono:∀a b s,a<=b->J a s->J b s) (step:∀b s k,J b s->J (b+1) (f s k).1):
 ∀(n:Nat) (c:lI) (t:KS σ) (b:Nat),J b t.s->J (b+8^n) (bp m f n c t).1.s
 |0,c,t,b,h=>by
  simp only [bp];split
  . exact mono _ _ _ (by omega) h
  exact step _ _ _ h
 |n+1,c,t,b,h=>by
  have hd:m.ao.toNat<=8:=by have:=aM hm;omega
  have:=FX mono (fun c' t' b'=>yG hm mono step n c' t' b') t b h m.ao.toNat (c:=c);rw [dP];refine mono _ _ _ ?_ this;have h2:m.ao.toNat*8^n<=8*8^n:=Nat.mul_le_mul_right _ hd;rw [Nat.pow_succ,Nat.mul_comm (8^n) 8];omega
def bP (ls:List lL) (ab:lL) (st:lI) (k:lI):lI × Bool:=
 (if Du ab k=true then st else st.set (bD ls k ls.length).length (st.getD (bD ls k ls.length).length 0+1),true)
def qe (n b:Nat) (st:lI):Prop:=st.length=n/\∀x∈st,0<=x/\x<=(b:Int)
theorem nD (n:Nat):∀a b s,a<=b->qe n a s->qe n b s:=fun a b s h hs=>⟨hs.1,fun x hx=>by have:=hs.2 x hx;omega⟩
theorem yH (n:Nat) (ls:List lL) (ab:lL):∀b s k,qe n b s->qe n (b+1) (bP ls ab s k).1:=by
 intro b s k h;unfold bP;simp only;split
 . exact nD n b (b+1) s (by omega) h
 refine ⟨by rw [List.length_set];exact h.1,fun x hx=> ?_⟩;rcases List.mem_or_eq_of_mem_set hx with hx|rfl
 . have:=h.2 x hx;omega
 have:0<=s.getD (bD ls k ls.length).length 0/\s.getD (bD ls k ls.length).length 0<=(b:Int):=by
  rw [uq7];cases he:s[(bD ls k ls.length).length]? with
  |none=>first|(simp;done)|(simp;omega)
  |some y=>exact h.2 y (List.mem_of_getElem? he)
 omega
theorem tx (ls:List lL) (k:lI):∀n,n<=ls.length->FW ls k n=decide (0<(bD ls k n).length)
 |0,_=>rfl
 |n+1,h=>by
  have eg:ls.getD n []=ls[n]:=by rw [uq7,uq8 (by omega)];rfl
  rw [BN (by omega),tx ls k n (by omega),bD,eg];cases dU ls[n] k with
  |true=>rw [if_pos rfl,Bool.or_true,decide_eq_true (by simp)]
  |false=>rw [if_neg (by simp),Bool.or_false]
theorem FY:∀(r:lI) (j:Nat),j<r.length->(r.set j (r.getD j 0+1)).sum=r.sum+1
 | [],j,h=>absurd h (gW _)
 |a::r,0,_=>by simp;omega
 |a::r,j+1,h=>by have:=FY r j (by simpa using h);simp only [List.set_cons_succ,List.getD_cons_succ,List.sum_cons,this];omega
theorem C1 (st:lI) (i:Nat) (h:i<st.length):((st.set i (st.getD i 0+1)).drop 1).sum=(st.drop 1).sum+if 0<i then 1 else 0:=by
 cases st with
 |nil=>exact absurd h (gW _)
 |cons a r=>
  cases i with
  |zero=>simp
  |succ j=>
   rw [if_pos (by omega)];simp only [List.set_cons_succ,List.getD_cons_succ,uq5,uq6];exact FY r j (by simpa using h)
theorem qN (ls:List lL) (ab:lL):∀(ks:lL) (st:lI),st.length=ls.length+1→
 (bC (bP ls ab) st ks).2=true/\(bC (bP ls ab) st ks).1.length=ls.length+1/\((bC (bP ls ab) st ks).1.drop 1).sum=(st.drop 1).sum+((ks.filter (JT ls ab)).length:Int)
 | [],st,h=>⟨rfl,h,by simp [bC]⟩
 |k::ks,st,h=>by
  have ht:(bP ls ab st k).2=true:=rfl;have hl:(bP ls ab st k).1.length=ls.length+1:=by
   unfold bP;simp only;split
   . exact h
   rw [List.length_set];exact h
  obtain ⟨i1,i2,i3⟩:=qN ls ab ks (bP ls ab st k).1 hl;rw [bC,if_pos ht];refine ⟨i1,i2,?_⟩;rw [i3,List.filter_cons];have hd:=gu ls k ls.length;have hs:((bP ls ab st k).1.drop 1).sum=(st.drop 1).sum+if JT ls ab k=true then 1 else 0:=by
   unfold bP JT;simp only;rw [tx ls k ls.length (fH _)];cases hin:Du ab k with
   |true=>simp
   |false=>
    rw [if_neg (by simp),C1 st _ (by omega)];by_cases h0:0<(bD ls k ls.length).length
    . rw [if_pos h0,decide_eq_true h0,if_pos (by rfl)]
    rw [if_neg h0,decide_eq_false h0,if_neg (by simp)]
  rw [hs];split
  . simp only [dB];push_cast;omega
  omega
structure FZ (m:aK) (ab:lL) (ls:List lL) (n1:Nat):Prop where
 cl:ab.length<=1048576
 cx:∀x∈ab,x.length<=1048576
 ll:ls.length<=1000
 lk:∀l∈ls,(l.length:Int)=m.af/\∀x∈l,x.length<=1048576
 n1:ls.length<n1
theorem W8 (m:aK) (ab:lL) (ls:List lL) (n1:Nat) (hV:FZ m ab ls n1) (c:lI) (ae:Nat) (ys:lA) (st:lI) (hc:(c.length:Int)=m.af) (hc6:c.length<=6) (hy:ys.take c.length=c.map eI) (hs:∃b:Nat,qe n1 b st/\b+1<=1000000):
 fK pG 223 [(1700000010,.row ae ⟨1,false⟩ true ys),(1600000004,.box 0 [aR ab]),(1600000005,.box 0 [.cm 265 [.ptr 1500000005 0 0 0]]),(1600000006,.box 0 [pM ls]),(1500000005,.box 0 [.ref 1500000012 0 0 n1]),(1500000012,.row 0 ⟨1,false⟩ true (bf eI st))] [.ref 1700000010 ae 0 c.length,.ptr 1600000004 0 0 0,.ptr 1600000005 0 0 0,.ptr 1600000006 0 0 0]
  (fun r m'=>r=eB (bP ls ab st c).2/\m'=[(1700000010,.row ae ⟨1,false⟩ true ys),(1600000004,.box 0 [aR ab]),(1600000005,.box 0 [.cm 265 [.ptr 1500000005 0 0 0]]),(1600000006,.box 0 [pM ls]),(1500000005,.box 0 [.ref 1500000012 0 0 n1]),(1500000012,.row 0 ⟨1,false⟩ true (bf eI ((bP ls ab st c).1)))]):=by
 refine fK.dK 17 [.tmp 5] func223 (hv:= ?_);have Dm:=yE ab c hV.cl hV.cx;have hdo:=l5 ls c hV.ll (fun l hl=>⟨by have:=(hV.lk l hl).1;omega,by have:=(hV.lk l hl).1;omega,(hV.lk l hl).2⟩);have hdl:=gu ls c ls.length;have hn1:=hV.n1;obtain ⟨b,⟨hst,hsb⟩,hb⟩:=hs;have hyl:c.length<=ys.length:=by have:=congrArg List.length hy;simp at this;omega
 simp -dsimp -implicitDefEqProofs only [go_sem];refine aj.k9 9 mixed rfl ?_;simp -dsimp -implicitDefEqProofs only [aO,cS,uq5,uq6];rcases hin:Du ab c with _|_
 . rw [hin] at Dm;have hr:bP ls ab st c=(st.set (bD ls c ls.length).length (st.getD (bD ls c ls.length).length 0+1),true):=by rw [bP,hin,if_neg (by simp)]
   rw [hr];generalize bD ls c ls.length=D at*;have hDl:D.length<st.length:=by omega
   have gD:st[D.length]? =some (st.getD D.length 0):=by rw [uq7,uq8 hDl];rfl
   have hDb:=hsb (st.getD D.length 0) (List.mem_of_getElem? gD);generalize st.getD D.length 0=z at*;simp -dsimp -implicitDefEqProofs only [go_sem,hy,uq6];refine ⟨hyl,?_⟩;(refine ak (Dm) ?_;try simp -dsimp -implicitDefEqProofs only [go_sem, *]);(refine ak (hdo) ?_;try simp -dsimp -implicitDefEqProofs only [go_sem, *]);refine ⟨by exact rfl,?_⟩;refine ca 430000 13 [.tmp 5] func265 rfl rfl rfl rfl rfl (by exact oT rfl) ?_;simp -dsimp -implicitDefEqProofs only [go_sem,gD];refine ⟨⟨by omega,by omega⟩,⟨by omega,by omega⟩,⟨by omega,by omega⟩,_,rfl,aL ?_ ?_⟩
   . simp -dsimp -implicitDefEqProofs only [go_sem,List.map_set]
   simp -dsimp -implicitDefEqProofs only [go_sem];simp [an,aq,ck]
 rw [hin] at Dm;have hr:bP ls ab st c=(st,true):=by rw [bP,hin,if_pos rfl]
 rw [hr];simp -dsimp -implicitDefEqProofs only [go_sem,hy,uq6];refine ⟨hyl,?_⟩;(refine ak (Dm) ?_;try simp -dsimp -implicitDefEqProofs only [go_sem, *]);refine ⟨by exact rfl,_,rfl,aL ?_ ?_⟩
 . simp -dsimp -implicitDefEqProofs only [go_sem]
 simp -dsimp -implicitDefEqProofs only [go_sem];simp [an,aq,ck]
theorem W9 (m:aK) (hm:aY m=true) (ab:lL) (ls:List lL) (n1:Nat) (hV:FZ m ab ls n1):∀(n:Nat) (c:lI) (t:KS lI),(c.length:Int)+n=m.af->(∀x∈c,0<=x/\x<=7)->Ds c t->(∃b:Nat,qe n1 b t.s/\b+8^n<=1000000)→
 fK pG 262 [(1700000008,.box 0 [.ref 1700000010 t.ae 0 c.length]),(1700000010,.row t.ae ⟨1,false⟩ true (t.zs.map eI)),(1700000004,.box 0 [eI m.af,eI m.ao,eI m.step,eI m.same,eI m.least]),(1700000007,.box 0 [.cm 223 [.ptr 1600000004 0 0 0,.ptr 1600000005 0 0 0,.ptr 1600000006 0 0 0]]),(1700000005,.box 0 [.val (.slice none 0 0)]),(1700000006,.box 0 [.val .nilFunc]),(1700000009,.box 0 [.cm 262 [.ptr 1700000008 0 0 0,.ptr 1700000004 0 0 0,.ptr 1700000007 0 0 0,.ptr 1700000005 0 0 0,.ptr 1700000006 0 0 0,.ptr 1700000009 0 0 0]]),(1600000004,.box 0 [aR ab]),(1600000005,.box 0 [.cm 265 [.ptr 1500000005 0 0 0]]),(1600000006,.box 0 [pM ls]),(1500000005,.box 0 [.ref 1500000012 0 0 n1]),(1500000012,.row 0 ⟨1,false⟩ true (bf eI t.s))] [eB false,.ptr 1700000008 0 0 0,.ptr 1700000004 0 0 0,.ptr 1700000007 0 0 0,.ptr 1700000005 0 0 0,.ptr 1700000006 0 0 0,.ptr 1700000009 0 0 0]
  (fun r m'=>r=eB (bp m (bP ls ab) n c t).2/\m'=[(1700000008,.box 0 [.ref 1700000010 (bp m (bP ls ab) n c t).1.ae 0 c.length]),(1700000010,.row (bp m (bP ls ab) n c t).1.ae ⟨1,false⟩ true ((bp m (bP ls ab) n c t).1.zs.map eI)),(1700000004,.box 0 [eI m.af,eI m.ao,eI m.step,eI m.same,eI m.least]),(1700000007,.box 0 [.cm 223 [.ptr 1600000004 0 0 0,.ptr 1600000005 0 0 0,.ptr 1600000006 0 0 0]]),(1700000005,.box 0 [.val (.slice none 0 0)]),(1700000006,.box 0 [.val .nilFunc]),(1700000009,.box 0 [.cm 262 [.ptr 1700000008 0 0 0,.ptr 1700000004 0 0 0,.ptr 1700000007 0 0 0,.ptr 1700000005 0 0 0,.ptr 1700000006 0 0 0,.ptr 1700000009 0 0 0]]),(1600000004,.box 0 [aR ab]),(1600000005,.box 0 [.cm 265 [.ptr 1500000005 0 0 0]]),(1600000006,.box 0 [pM ls]),(1500000005,.box 0 [.ref 1500000012 0 0 n1]),(1500000012,.row 0 ⟨1,false⟩ true (bf eI ((bp m (bP ls ab) n c t).1.s)))]):=by
 intro n;have ⟨⟨zy,zz⟩,hd1,hd2⟩:=aM hm;induction n with
 |zero=>
  intro c t hl hc hz hs;have hk:((c.length:Int)==m.af)=true:=beq_iff_eq.2 (by omega);have ht:aW c.length (bf eI t.zs)=bf eI c:=by rw [←List.map_take,hz.1]
  have hzl:c.length<=(bf eI t.zs).length:=by simpa using hz.2
  refine fK.dK 91 [.tmp 8] func262 (hv:= ?_);simp -dsimp -implicitDefEqProofs only [go_sem,hk];refine aj.k9 8 mixed rfl ?_;simp -dsimp -implicitDefEqProofs only [aO,cS,uq5,uq6];have sv:=iA c (by omega);rcases hq:decide ((bo c c.length:Int)<m.least) with _|_
  . have hq':=of_decide_eq_false hq;have eQ:bp m (bP ls ab) 0 c t=(⟨t.ae,t.zs,((bP ls ab) t.s c).1⟩,((bP ls ab) t.s c).2):=by rw [bp,if_neg hq']
    rw [eQ];simp -dsimp -implicitDefEqProofs only [go_sem,ht,uq6];refine ⟨hz.2,?_⟩;(refine ak (sv) ?_;try simp -dsimp -implicitDefEqProofs only [go_sem, *]);refine ⟨by exact rfl,hz.2,?_⟩;refine cW (W8 m ab ls n1 hV c t.ae (t.zs.map eI) t.s (by omega) (by omega) ht (by simpa using hs)) ⟨⟨?_,?_⟩,?_,?_⟩ ?_
    . simp -dsimp -implicitDefEqProofs only [go_sem]
    . simp -dsimp -implicitDefEqProofs only [go_sem];simp [an,aq,ck]
    . simp -dsimp -implicitDefEqProofs only [go_sem]
    . simp -dsimp -implicitDefEqProofs only [go_sem];simp
    rintro r m' ⟨hr,hm'⟩;rw [hr,hm'];simp -dsimp -implicitDefEqProofs only [go_sem];refine ⟨_,rfl,aL ?_ ?_⟩
    . simp -dsimp -implicitDefEqProofs only [go_sem]
    simp -dsimp -implicitDefEqProofs only [go_sem];simp [an,aq,ck]
  have hq':=oT hq;have eQ:bp m (bP ls ab) 0 c t=(t,true):=by rw [bp,if_pos hq']
  rw [eQ];simp -dsimp -implicitDefEqProofs only [go_sem,ht,uq6];refine ⟨hz.2,?_⟩;(refine ak (sv) ?_;try simp -dsimp -implicitDefEqProofs only [go_sem, *]);refine ⟨by exact rfl,_,rfl,aL ?_ ?_⟩
  . simp -dsimp -implicitDefEqProofs only [go_sem]
  simp -dsimp -implicitDefEqProofs only [go_sem];simp [an,aq,ck]
 |succ n ih=>
  intro c t hl hc hz hs;have hk:((c.length:Int)==m.af)=false:=beq_eq_false_iff_ne.2 (by omega);refine fK.dK 91 [.tmp 8] func262 (hv:= ?_);simp -dsimp -implicitDefEqProofs only [go_sem,hk];refine aj.up [0,1,2,5,6,9,10] [47,61,69,70,72,84] [1700000008,1700000010,1500000012] m.ao.toNat (fun i=>(eC (aT m (bP ls ab) n c) t i).2=true) (fun i=>[(11,eI i)]) (fun i=>[(1700000008,.box 0 [.ref 1700000010 (eC (aT m (bP ls ab) n c) t i).1.ae 0 c.length]),(1700000010,.row (eC (aT m (bP ls ab) n c) t i).1.ae ⟨1,false⟩ true ((eC (aT m (bP ls ab) n c) t i).1.zs.map eI)),(1500000012,.row 0 ⟨1,false⟩ true (bf eI ((eC (aT m (bP ls ab) n c) t i).1.s)))]) rfl ?_ rfl (fun i hi hI=> ?_) (fun hI=> ?_)
  . simp -dsimp -implicitDefEqProofs only [go_sem];simp [eC]
  . have hu:Ds c (eC (aT m (bP ls ab) n c) t i).1:=pC hz i;have ki:∃b:Nat,qe n1 b (eC (aT m (bP ls ab) n c) t i).1.s/\b+8^n<=1000000:=by
     obtain ⟨b0,hJ0,hb0⟩:=hs;refine ⟨b0+i*8^n,FX (nD n1) (fun c' t' b'=>yG hm (nD n1) (yH n1 ls ab) n c' t' b') t b0 hJ0 i,?_⟩;have h8:(i+1)*8^n<=8*8^n:=Nat.mul_le_mul_right _ (by omega);have h9:(i+1)*8^n=i*8^n+8^n:=Nat.succ_mul i (8^n);have h10:8^(n+1)=8*8^n:=by rw [Nat.pow_succ,Nat.mul_comm]
     omega
    have hlt:decide ((i:Int)<m.ao)=true:=dT (by omega);have hS:=iU hI;have cA:(aT m (bP ls ab) n c i (eC (aT m (bP ls ab) n c) t i).1).2=false->bp m (bP ls ab) (n+1) c t=aT m (bP ls ab) n c i (eC (aT m (bP ls ab) n c) t i).1:=fun h=>by rw [←hS] at h ⊢;rw [dP,oR h m.ao.toNat (by omega)]
    rw [hS];clear hS hI;generalize (eC (aT m (bP ls ab) n c) t i).1=u at*;obtain ⟨hu1,hu2⟩:=hu;have htk:aW c.length (bf eI u.zs)=bf eI c:=by rw [←List.map_take,hu1]
    have hcl:c.length<=6:=by omega
    have hih:=ih (c++[(i:Int)]) ⟨u.ae+1,c++[(i:Int)],u.s⟩ (by simp;omega) (fun x hx=>by
     rcases List.mem_append.1 hx with h|h
     . exact hc x h
     simp at h;omega) ⟨bd,fH _⟩ ki
    simp only [cK,dB,bu,Nat.zero_add] at hih;have cJ:=ku (c++[(i:Int)]) (by simp) (by simp;omega);simp only [cK,dB,bu,Nat.zero_add,Nat.add_sub_cancel] at cJ;have n6:bf eI c++[eI (i:Int)]=bf eI (c++[(i:Int)]):=by simp
    have lT:bJ m c i=(c.isEmpty|| !decide (e8 ((i:Int)-c.getD (c.length-1) 0)>m.step)):=by
     unfold bJ;congr 1;by_cases h:e8 ((i:Int)-c.getD (c.length-1) 0)<=m.step
     . rw [decide_eq_true h,decide_eq_false (by omega)];rfl
     rw [decide_eq_false h,decide_eq_true (by omega)];rfl
    have dI:fY m c i= !decide ((a6 (c++[(i:Int)]) c.length:Int)>m.same):=by
     unfold fY;by_cases h:(a6 (c++[(i:Int)]) c.length:Int)<=m.same
     . rw [decide_eq_true h,decide_eq_false (by omega)];rfl
     rw [decide_eq_false h,decide_eq_true (by omega)];rfl
    simp -dsimp -implicitDefEqProofs only [pz,cG,cH,bh,↓reduceIte,bK];simp -dsimp -implicitDefEqProofs only [go_sem,hlt];refine aj.draw mixed rfl ?_;have hfn:qY pG 216 .neq=some false:=rfl;rcases hk0:decide ((c.length:Int)>0) with _|_
    . have hce:c=[]:=by
       have:=of_decide_eq_false hk0;exact List.eq_nil_of_length_eq_zero (by omega)
      have hsT:bJ m c i=true:=by rw [hce];rfl
      clear hce;simp -dsimp -implicitDefEqProofs only [go_sem,hfn,hk0];refine ⟨by exact rfl,hu2,by omega,?_⟩;refine aj.k9 13 mixed rfl ?_;simp -dsimp -implicitDefEqProofs only [aO,cS,uq5,uq6];have htl:aW (c.length+1) (bf eI (c++[(i:Int)]))=bf eI (c++[(i:Int)]):=aP (by simp);rcases hq2:decide ((a6 (c++[(i:Int)]) c.length:Int)>m.same) with _|_
      . have hcB:aT m (bP ls ab) n c i u=bp m (bP ls ab) n (c++[(i:Int)]) ⟨u.ae+1,c++[(i:Int)],u.s⟩:=by rw [aT,if_pos hsT,if_pos (by rw [dI,hq2];rfl),hu1]
        rw [hcB] at cA ⊢;clear hcB;generalize bp m (bP ls ab) n (c++[(i:Int)]) ⟨u.ae+1,c++[(i:Int)],u.s⟩=w at*;obtain ⟨w,b⟩:=w;simp -dsimp -implicitDefEqProofs only [go_sem,htk,n6,htl];(refine ak (cJ) ?_;try simp -dsimp -implicitDefEqProofs only [go_sem, *]);refine ⟨by exact rfl,?_⟩;refine cW hih ⟨⟨?_,?_⟩,?_,?_⟩ ?_
        . simp -dsimp -implicitDefEqProofs only [go_sem]
        . simp -dsimp -implicitDefEqProofs only [go_sem];simp [an,aq,ck]
        . simp -dsimp -implicitDefEqProofs only [go_sem]
        . simp -dsimp -implicitDefEqProofs only [go_sem];simp
        rintro r m' ⟨hr,hm'⟩;rw [hr,hm'];clear hr hm';cases b with
        |false=>
         rw [cA rfl];simp -dsimp -implicitDefEqProofs only [go_sem];refine ⟨by omega,_,rfl,aL ?_ ?_⟩
         . simp -dsimp -implicitDefEqProofs only [go_sem]
         simp -dsimp -implicitDefEqProofs only [go_sem];simp [an,aq,ck]
        |true=>
         simp -dsimp -implicitDefEqProofs only [go_sem];exact ⟨by omega,⟨by omega,by omega⟩,by simp⟩
      have hcB:aT m (bP ls ab) n c i u=(⟨u.ae+1,c++[(i:Int)],u.s⟩,true):=by rw [aT,if_pos hsT,if_neg (by rw [dI,hq2];exact fun h=>by cases h),hu1]
      rw [hcB];clear hcB cA;simp -dsimp -implicitDefEqProofs only [go_sem,htk,n6,htl];(refine ak (cJ) ?_;try simp -dsimp -implicitDefEqProofs only [go_sem, *]);exact ⟨by exact rfl,by omega,⟨by omega,by omega⟩,by simp⟩
    have hkp:=oT hk0;have hla:c.getD (c.length-1) 0=c[c.length-1]:=by simp [uq7,show c.length-1<c.length by omega]
    have j7:(bf eI u.zs)[c.length-1]? =some (eI (c.getD (c.length-1) 0)):=by
     have h1:(aW c.length (bf eI u.zs))[c.length-1]? =(bf eI u.zs)[c.length-1]? :=by rw [List.getElem?_take];simp;omega
     rw [←h1,htk,hla];simp [show c.length-1<c.length by omega]
    have hlb:=hc _ (uq9 (show c.length-1<c.length by omega));rw [←hla] at hlb;generalize c.getD (c.length-1) 0=z at*;clear hla;have e1:((c.length:Int)-1).toNat=c.length-1:=by omega
    have pQ:=jl ((i:Int)-z) (by omega);rcases hq:decide (e8 ((i:Int)-z)>m.step) with _|_
    . have hsT:bJ m c i=true:=by rw [lT,hq];simp
      simp -dsimp -implicitDefEqProofs only [go_sem,hfn,hk0,e1,j7];refine ⟨⟨by omega,by omega⟩,⟨by omega,by omega⟩,⟨by omega,by omega⟩,?_⟩;(refine ak (pQ) ?_;try simp -dsimp -implicitDefEqProofs only [go_sem, *]);refine ⟨by exact rfl,by omega,?_⟩;refine aj.k9 13 mixed rfl ?_;simp -dsimp -implicitDefEqProofs only [aO,cS,uq5,uq6];have htl:aW (c.length+1) (bf eI (c++[(i:Int)]))=bf eI (c++[(i:Int)]):=aP (by simp);rcases hq2:decide ((a6 (c++[(i:Int)]) c.length:Int)>m.same) with _|_
      . have hcB:aT m (bP ls ab) n c i u=bp m (bP ls ab) n (c++[(i:Int)]) ⟨u.ae+1,c++[(i:Int)],u.s⟩:=by rw [aT,if_pos hsT,if_pos (by rw [dI,hq2];rfl),hu1]
        rw [hcB] at cA ⊢;clear hcB;generalize bp m (bP ls ab) n (c++[(i:Int)]) ⟨u.ae+1,c++[(i:Int)],u.s⟩=w at*;obtain ⟨w,b⟩:=w;simp -dsimp -implicitDefEqProofs only [go_sem,htl];(refine ak (cJ) ?_;try simp -dsimp -implicitDefEqProofs only [go_sem, *]);refine ⟨by exact rfl,?_⟩;refine cW hih ⟨⟨?_,?_⟩,?_,?_⟩ ?_
        . simp -dsimp -implicitDefEqProofs only [go_sem]
        . simp -dsimp -implicitDefEqProofs only [go_sem];simp [an,aq,ck]
        . simp -dsimp -implicitDefEqProofs only [go_sem]
        . simp -dsimp -implicitDefEqProofs only [go_sem];simp
        rintro r m' ⟨hr,hm'⟩;rw [hr,hm'];clear hr hm';cases b with
        |false=>
         rw [cA rfl];simp -dsimp -implicitDefEqProofs only [go_sem];refine ⟨by omega,_,rfl,aL ?_ ?_⟩
         . simp -dsimp -implicitDefEqProofs only [go_sem]
         simp -dsimp -implicitDefEqProofs only [go_sem];simp [an,aq,ck]
        |true=>
         simp -dsimp -implicitDefEqProofs only [go_sem];exact ⟨by omega,⟨by omega,by omega⟩,by simp⟩
      have hcB:aT m (bP ls ab) n c i u=(⟨u.ae+1,c++[(i:Int)],u.s⟩,true):=by rw [aT,if_pos hsT,if_neg (by rw [dI,hq2];exact fun h=>by cases h),hu1]
      rw [hcB];clear hcB cA;simp -dsimp -implicitDefEqProofs only [go_sem,htl];(refine ak (cJ) ?_;try simp -dsimp -implicitDefEqProofs only [go_sem, *]);exact ⟨by exact rfl,by omega,⟨by omega,by omega⟩,by simp⟩
    have hsF:bJ m c i=false:=by
     rw [lT,hq];cases c with
     |nil=>simp at hkp
     |cons=>rfl
    have hcB:aT m (bP ls ab) n c i u=(u,true):=by rw [aT,if_neg (by rw [hsF];exact fun h=>by cases h)]
    rw [hcB];clear hcB cA;simp -dsimp -implicitDefEqProofs only [go_sem,hfn,hk0,e1,j7];refine ⟨⟨by omega,by omega⟩,⟨by omega,by omega⟩,⟨by omega,by omega⟩,?_⟩;(refine ak (pQ) ?_;try simp -dsimp -implicitDefEqProofs only [go_sem, *]);exact ⟨by exact rfl,⟨by omega,by omega⟩,by simp⟩
  simp -dsimp -implicitDefEqProofs only [pz,cG,cH,bh,↓reduceIte,bK];have hlt:decide (((m.ao.toNat:Nat):Int)<m.ao)=false:=dF (by omega);simp -dsimp -implicitDefEqProofs only [go_sem,hlt];rw [dP];refine ⟨_,⟨by rw [hI],rfl⟩,aL ?_ ?_⟩
  . simp -dsimp -implicitDefEqProofs only [go_sem]
  simp -dsimp -implicitDefEqProofs only [go_sem];simp [an,aq,ck]
def GJ:Option lI->AV
 |none=>.val (.slice none 0 0)
 |some k=>aR [k]
def dy (ls:List lL) (ab:lL) (st:List (Option lI)) (k:lI):List (Option lI) × Bool:=
 (if Du ab k=true then st else if 0<(bD ls k ls.length).length/\st.getD (bD ls k ls.length).length none=none then st.set (bD ls k ls.length).length (some k) else st,true)
def C2 (n:Nat) (_:Nat) (st:List (Option lI)):Prop:=st.length=n
theorem BP (n:Nat):∀a b s,a<=b->C2 n a s->C2 n b s:=fun _ _ _ _ h=>h
theorem BQ (n:Nat) (ls:List lL) (ab:lL):∀b s k,C2 n b s->C2 n (b+1) (dy ls ab s k).1:=by
 intro b s k h;unfold dy C2 at*;simp only;split
 . exact h
 split
 . rw [List.length_set];exact h
 exact h
theorem Xa (m:aK) (ab:lL) (ls:List lL) (n1:Nat) (hV:FZ m ab ls n1) (c:lI) (ae:Nat) (ys:lA) (st:List (Option lI)) (hc:(c.length:Int)=m.af) (hc6:c.length<=6) (hy:ys.take c.length=c.map eI) (hs:∃b:Nat,C2 n1 b st/\b+1<=1000000):
 fK pG 223 [(1700000010,.row ae ⟨1,false⟩ true ys),(1600000004,.box 0 [aR ab]),(1600000005,.box 0 [.cm 172 [.ptr 1500000009 0 0 0,.ptr 1500000005 0 0 0]]),(1600000006,.box 0 [pM ls]),(1500000009,.box 0 [.ref 1500000028 0 0 n1]),(1500000005,.box 0 [eI 1]),(1500000028,.row 0 ⟨1,false⟩ false (bf GJ st))] [.ref 1700000010 ae 0 c.length,.ptr 1600000004 0 0 0,.ptr 1600000005 0 0 0,.ptr 1600000006 0 0 0]
  (fun r m'=>r=eB (dy ls ab st c).2/\m'=[(1700000010,.row ae ⟨1,false⟩ true ys),(1600000004,.box 0 [aR ab]),(1600000005,.box 0 [.cm 172 [.ptr 1500000009 0 0 0,.ptr 1500000005 0 0 0]]),(1600000006,.box 0 [pM ls]),(1500000009,.box 0 [.ref 1500000028 0 0 n1]),(1500000005,.box 0 [eI 1]),(1500000028,.row 0 ⟨1,false⟩ false (bf GJ ((dy ls ab st c).1)))]):=by
 refine fK.dK 17 [.tmp 5] func223 (hv:= ?_);have Dm:=yE ab c hV.cl hV.cx;have hdo:=l5 ls c hV.ll (fun l hl=>⟨by have:=(hV.lk l hl).1;omega,by have:=(hV.lk l hl).1;omega,(hV.lk l hl).2⟩);have hdl:=gu ls c ls.length;have hn1:=hV.n1;obtain ⟨b,hst,hb⟩:=hs;have hst:st.length=n1:=hst;have hyl:c.length<=ys.length:=by have:=congrArg List.length hy;simp at this;omega
 simp -dsimp -implicitDefEqProofs only [go_sem];refine aj.k9 9 mixed rfl ?_;simp -dsimp -implicitDefEqProofs only [aO,cS,uq5,uq6];rcases hin:Du ab c with _|_
 . rw [hin] at Dm;have hr:dy ls ab st c=(if 0<(bD ls c ls.length).length/\st.getD (bD ls c ls.length).length none=none then st.set (bD ls c ls.length).length (some c) else st,true):=by rw [dy,hin,if_neg (by simp)]
   rw [hr];generalize bD ls c ls.length=D at*;have hDl:D.length<st.length:=by omega
   have gD:st[D.length]? =some (st.getD D.length none):=by rw [uq7,uq8 hDl];rfl
   generalize st.getD D.length none=z at*;simp -dsimp -implicitDefEqProofs only [go_sem,hy,uq6];refine ⟨hyl,?_⟩;(refine ak (Dm) ?_;try simp -dsimp -implicitDefEqProofs only [go_sem, *]);(refine ak (hdo) ?_;try simp -dsimp -implicitDefEqProofs only [go_sem, *]);refine ⟨by exact rfl,?_⟩;refine ca 430000 32 [.tmp 6] func172 rfl rfl rfl rfl rfl (by exact oT rfl) ?_;rcases D with _|⟨d0,D⟩
   . have e0:decide ((0:Int)>0)=false:=rfl;simp -dsimp -implicitDefEqProofs only [go_sem];refine aj.draw mixed rfl ?_;simp -dsimp -implicitDefEqProofs only [go_sem,e0];refine ⟨by exact rfl,_,rfl,aL ?_ ?_⟩
     . simp -dsimp -implicitDefEqProofs only [go_sem];simp
     simp -dsimp -implicitDefEqProofs only [go_sem];simp [an,aq,ck]
   rw [dB] at gD hDl hdl;have e1:decide (((D.length+1:Nat):Int)>0)=true:=dT (by omega);rcases z with _|k0
   . have e2:decide ((0:Int)<1)=true:=rfl;simp -dsimp -implicitDefEqProofs only [go_sem];refine aj.draw mixed rfl ?_;simp -dsimp -implicitDefEqProofs only [go_sem,e1,gD,GJ,e2];refine ⟨⟨by omega,by omega⟩,by exact rfl,?_⟩;refine aj.k9 11 mixed rfl ?_;simp -dsimp -implicitDefEqProofs only [aO,cS,uq5,uq6];have hcl:=xX c (by omega);simp -dsimp -implicitDefEqProofs only [go_sem,gD,GJ,hy,uq6];refine ⟨⟨by omega,by omega⟩,hyl,?_⟩;(refine ak (hcl) ?_;try simp -dsimp -implicitDefEqProofs only [go_sem, *]);have ez:(0<D.length+1/\(none:Option lI)=none):=⟨by omega,rfl⟩;refine .inr ⟨⟨by omega,by omega⟩,by exact rfl,.inr ⟨by omega,_,rfl,aL ?_ ?_⟩⟩
     . simp -dsimp -implicitDefEqProofs only [go_sem,ez,List.map_set,GJ];rfl
     simp -dsimp -implicitDefEqProofs only [go_sem];simp [an,aq,ck]
   have e2:decide (((1:Nat):Int)<1)=false:=rfl;simp -dsimp -implicitDefEqProofs only [go_sem];refine aj.draw mixed rfl ?_;simp -dsimp -implicitDefEqProofs only [go_sem,e1,gD,GJ,e2];refine ⟨⟨by omega,by omega⟩,by exact rfl,?_⟩;have ez:¬(0<D.length+1/\(some k0:Option lI)=none):=fun h=>by cases h.2
   refine ⟨_,rfl,aL ?_ ?_⟩
   . simp -dsimp -implicitDefEqProofs only [go_sem,ez]
   simp -dsimp -implicitDefEqProofs only [go_sem];simp [an,aq,ck]
 rw [hin] at Dm;have hr:dy ls ab st c=(st,true):=by rw [dy,hin,if_pos rfl]
 rw [hr];simp -dsimp -implicitDefEqProofs only [go_sem,hy,uq6];refine ⟨hyl,?_⟩;(refine ak (Dm) ?_;try simp -dsimp -implicitDefEqProofs only [go_sem, *]);refine ⟨by exact rfl,_,rfl,aL ?_ ?_⟩
 . simp -dsimp -implicitDefEqProofs only [go_sem]
 simp -dsimp -implicitDefEqProofs only [go_sem];simp [an,aq,ck]
theorem Xb (m:aK) (hm:aY m=true) (ab:lL) (ls:List lL) (n1:Nat) (hV:FZ m ab ls n1):∀(n:Nat) (c:lI) (t:KS (List (Option lI))),(c.length:Int)+n=m.af->(∀x∈c,0<=x/\x<=7)->Ds c t->(∃b:Nat,C2 n1 b t.s/\b+8^n<=1000000)→
 fK pG 262 [(1700000008,.box 0 [.ref 1700000010 t.ae 0 c.length]),(1700000010,.row t.ae ⟨1,false⟩ true (t.zs.map eI)),(1700000004,.box 0 [eI m.af,eI m.ao,eI m.step,eI m.same,eI m.least]),(1700000007,.box 0 [.cm 223 [.ptr 1600000004 0 0 0,.ptr 1600000005 0 0 0,.ptr 1600000006 0 0 0]]),(1700000005,.box 0 [.val (.slice none 0 0)]),(1700000006,.box 0 [.val .nilFunc]),(1700000009,.box 0 [.cm 262 [.ptr 1700000008 0 0 0,.ptr 1700000004 0 0 0,.ptr 1700000007 0 0 0,.ptr 1700000005 0 0 0,.ptr 1700000006 0 0 0,.ptr 1700000009 0 0 0]]),(1600000004,.box 0 [aR ab]),(1600000005,.box 0 [.cm 172 [.ptr 1500000009 0 0 0,.ptr 1500000005 0 0 0]]),(1600000006,.box 0 [pM ls]),(1500000009,.box 0 [.ref 1500000028 0 0 n1]),(1500000005,.box 0 [eI 1]),(1500000028,.row 0 ⟨1,false⟩ false (bf GJ t.s))] [eB false,.ptr 1700000008 0 0 0,.ptr 1700000004 0 0 0,.ptr 1700000007 0 0 0,.ptr 1700000005 0 0 0,.ptr 1700000006 0 0 0,.ptr 1700000009 0 0 0]
  (fun r m'=>r=eB (bp m (dy ls ab) n c t).2/\m'=[(1700000008,.box 0 [.ref 1700000010 (bp m (dy ls ab) n c t).1.ae 0 c.length]),(1700000010,.row (bp m (dy ls ab) n c t).1.ae ⟨1,false⟩ true ((bp m (dy ls ab) n c t).1.zs.map eI)),(1700000004,.box 0 [eI m.af,eI m.ao,eI m.step,eI m.same,eI m.least]),(1700000007,.box 0 [.cm 223 [.ptr 1600000004 0 0 0,.ptr 1600000005 0 0 0,.ptr 1600000006 0 0 0]]),(1700000005,.box 0 [.val (.slice none 0 0)]),(1700000006,.box 0 [.val .nilFunc]),(1700000009,.box 0 [.cm 262 [.ptr 1700000008 0 0 0,.ptr 1700000004 0 0 0,.ptr 1700000007 0 0 0,.ptr 1700000005 0 0 0,.ptr 1700000006 0 0 0,.ptr 1700000009 0 0 0]]),(1600000004,.box 0 [aR ab]),(1600000005,.box 0 [.cm 172 [.ptr 1500000009 0 0 0,.ptr 1500000005 0 0 0]]),(1600000006,.box 0 [pM ls]),(1500000009,.box 0 [.ref 1500000028 0 0 n1]),(1500000005,.box 0 [eI 1]),(1500000028,.row 0 ⟨1,false⟩ false (bf GJ ((bp m (dy ls ab) n c t).1.s)))]):=by
 intro n;have ⟨⟨zy,zz⟩,hd1,hd2⟩:=aM hm;induction n with
 |zero=>
  intro c t hl hc hz hs;have hk:((c.length:Int)==m.af)=true:=beq_iff_eq.2 (by omega);have ht:aW c.length (bf eI t.zs)=bf eI c:=by rw [←List.map_take,hz.1]
  have hzl:c.length<=(bf eI t.zs).length:=by simpa using hz.2
  refine fK.dK 91 [.tmp 8] func262 (hv:= ?_);simp -dsimp -implicitDefEqProofs only [go_sem,hk];refine aj.k9 8 mixed rfl ?_;simp -dsimp -implicitDefEqProofs only [aO,cS,uq5,uq6];have sv:=iA c (by omega);rcases hq:decide ((bo c c.length:Int)<m.least) with _|_
  . have hq':=of_decide_eq_false hq;have eQ:bp m (dy ls ab) 0 c t=(⟨t.ae,t.zs,((dy ls ab) t.s c).1⟩,((dy ls ab) t.s c).2):=by rw [bp,if_neg hq']
    rw [eQ];simp -dsimp -implicitDefEqProofs only [go_sem,ht,uq6];refine ⟨hz.2,?_⟩;(refine ak (sv) ?_;try simp -dsimp -implicitDefEqProofs only [go_sem, *]);refine ⟨by exact rfl,hz.2,?_⟩;refine cW (Xa m ab ls n1 hV c t.ae (t.zs.map eI) t.s (by omega) (by omega) ht (by simpa using hs)) ⟨⟨?_,?_⟩,?_,?_⟩ ?_
    . simp -dsimp -implicitDefEqProofs only [go_sem]
    . simp -dsimp -implicitDefEqProofs only [go_sem];simp [an,aq,ck]
    . simp -dsimp -implicitDefEqProofs only [go_sem]
    . simp -dsimp -implicitDefEqProofs only [go_sem];simp
    rintro r m' ⟨hr,hm'⟩;rw [hr,hm'];simp -dsimp -implicitDefEqProofs only [go_sem];refine ⟨_,rfl,aL ?_ ?_⟩
    . simp -dsimp -implicitDefEqProofs only [go_sem]
    simp -dsimp -implicitDefEqProofs only [go_sem];simp [an,aq,ck]
  have hq':=oT hq;have eQ:bp m (dy ls ab) 0 c t=(t,true):=by rw [bp,if_pos hq']
  rw [eQ];simp -dsimp -implicitDefEqProofs only [go_sem,ht,uq6];refine ⟨hz.2,?_⟩;(refine ak (sv) ?_;try simp -dsimp -implicitDefEqProofs only [go_sem, *]);refine ⟨by exact rfl,_,rfl,aL ?_ ?_⟩
  . simp -dsimp -implicitDefEqProofs only [go_sem]
  simp -dsimp -implicitDefEqProofs only [go_sem];simp [an,aq,ck]
 |succ n ih=>
  intro c t hl hc hz hs;have hk:((c.length:Int)==m.af)=false:=beq_eq_false_iff_ne.2 (by omega);refine fK.dK 91 [.tmp 8] func262 (hv:= ?_);simp -dsimp -implicitDefEqProofs only [go_sem,hk];refine aj.up [0,1,2,5,6,9,10] [47,61,69,70,72,84] [1700000008,1700000010,1500000028] m.ao.toNat (fun i=>(eC (aT m (dy ls ab) n c) t i).2=true) (fun i=>[(11,eI i)]) (fun i=>[(1700000008,.box 0 [.ref 1700000010 (eC (aT m (dy ls ab) n c) t i).1.ae 0 c.length]),(1700000010,.row (eC (aT m (dy ls ab) n c) t i).1.ae ⟨1,false⟩ true ((eC (aT m (dy ls ab) n c) t i).1.zs.map eI)),(1500000028,.row 0 ⟨1,false⟩ false (bf GJ ((eC (aT m (dy ls ab) n c) t i).1.s)))]) rfl ?_ rfl (fun i hi hI=> ?_) (fun hI=> ?_)
  . simp -dsimp -implicitDefEqProofs only [go_sem];simp [eC]
  . have hu:Ds c (eC (aT m (dy ls ab) n c) t i).1:=pC hz i;have ki:∃b:Nat,C2 n1 b (eC (aT m (dy ls ab) n c) t i).1.s/\b+8^n<=1000000:=by
     obtain ⟨b0,hJ0,hb0⟩:=hs;refine ⟨b0+i*8^n,FX (BP n1) (fun c' t' b'=>yG hm (BP n1) (BQ n1 ls ab) n c' t' b') t b0 hJ0 i,?_⟩;have h8:(i+1)*8^n<=8*8^n:=Nat.mul_le_mul_right _ (by omega);have h9:(i+1)*8^n=i*8^n+8^n:=Nat.succ_mul i (8^n);have h10:8^(n+1)=8*8^n:=by rw [Nat.pow_succ,Nat.mul_comm]
     omega
    have hlt:decide ((i:Int)<m.ao)=true:=dT (by omega);have hS:=iU hI;have cA:(aT m (dy ls ab) n c i (eC (aT m (dy ls ab) n c) t i).1).2=false->bp m (dy ls ab) (n+1) c t=aT m (dy ls ab) n c i (eC (aT m (dy ls ab) n c) t i).1:=fun h=>by rw [←hS] at h ⊢;rw [dP,oR h m.ao.toNat (by omega)]
    rw [hS];clear hS hI;generalize (eC (aT m (dy ls ab) n c) t i).1=u at*;obtain ⟨hu1,hu2⟩:=hu;have htk:aW c.length (bf eI u.zs)=bf eI c:=by rw [←List.map_take,hu1]
    have hcl:c.length<=6:=by omega
    have hih:=ih (c++[(i:Int)]) ⟨u.ae+1,c++[(i:Int)],u.s⟩ (by simp;omega) (fun x hx=>by
     rcases List.mem_append.1 hx with h|h
     . exact hc x h
     simp at h;omega) ⟨bd,fH _⟩ ki
    simp only [cK,dB,bu,Nat.zero_add] at hih;have cJ:=ku (c++[(i:Int)]) (by simp) (by simp;omega);simp only [cK,dB,bu,Nat.zero_add,Nat.add_sub_cancel] at cJ;have n6:bf eI c++[eI (i:Int)]=bf eI (c++[(i:Int)]):=by simp
    have lT:bJ m c i=(c.isEmpty|| !decide (e8 ((i:Int)-c.getD (c.length-1) 0)>m.step)):=by
     unfold bJ;congr 1;by_cases h:e8 ((i:Int)-c.getD (c.length-1) 0)<=m.step
     . rw [decide_eq_true h,decide_eq_false (by omega)];rfl
     rw [decide_eq_false h,decide_eq_true (by omega)];rfl
    have dI:fY m c i= !decide ((a6 (c++[(i:Int)]) c.length:Int)>m.same):=by
     unfold fY;by_cases h:(a6 (c++[(i:Int)]) c.length:Int)<=m.same
     . rw [decide_eq_true h,decide_eq_false (by omega)];rfl
     rw [decide_eq_false h,decide_eq_true (by omega)];rfl
    simp -dsimp -implicitDefEqProofs only [pz,cG,cH,bh,↓reduceIte,bK];simp -dsimp -implicitDefEqProofs only [go_sem,hlt];refine aj.draw mixed rfl ?_;have hfn:qY pG 216 .neq=some false:=rfl;rcases hk0:decide ((c.length:Int)>0) with _|_
    . have hce:c=[]:=by
       have:=of_decide_eq_false hk0;exact List.eq_nil_of_length_eq_zero (by omega)
      have hsT:bJ m c i=true:=by rw [hce];rfl
      clear hce;simp -dsimp -implicitDefEqProofs only [go_sem,hfn,hk0];refine ⟨by exact rfl,hu2,by omega,?_⟩;refine aj.k9 13 mixed rfl ?_;simp -dsimp -implicitDefEqProofs only [aO,cS,uq5,uq6];have htl:aW (c.length+1) (bf eI (c++[(i:Int)]))=bf eI (c++[(i:Int)]):=aP (by simp);rcases hq2:decide ((a6 (c++[(i:Int)]) c.length:Int)>m.same) with _|_
      . have hcB:aT m (dy ls ab) n c i u=bp m (dy ls ab) n (c++[(i:Int)]) ⟨u.ae+1,c++[(i:Int)],u.s⟩:=by rw [aT,if_pos hsT,if_pos (by rw [dI,hq2];rfl),hu1]
        rw [hcB] at cA ⊢;clear hcB;generalize bp m (dy ls ab) n (c++[(i:Int)]) ⟨u.ae+1,c++[(i:Int)],u.s⟩=w at*;obtain ⟨w,b⟩:=w;simp -dsimp -implicitDefEqProofs only [go_sem,htk,n6,htl];(refine ak (cJ) ?_;try simp -dsimp -implicitDefEqProofs only [go_sem, *]);refine ⟨by exact rfl,?_⟩;refine cW hih ⟨⟨?_,?_⟩,?_,?_⟩ ?_
        . simp -dsimp -implicitDefEqProofs only [go_sem]
        . simp -dsimp -implicitDefEqProofs only [go_sem];simp [an,aq,ck]
        . simp -dsimp -implicitDefEqProofs only [go_sem]
        . simp -dsimp -implicitDefEqProofs only [go_sem];simp
        rintro r m' ⟨hr,hm'⟩;rw [hr,hm'];clear hr hm';cases b with
        |false=>
         rw [cA rfl];simp -dsimp -implicitDefEqProofs only [go_sem];refine ⟨by omega,_,rfl,aL ?_ ?_⟩
         . simp -dsimp -implicitDefEqProofs only [go_sem]
         simp -dsimp -implicitDefEqProofs only [go_sem];simp [an,aq,ck]
        |true=>
         simp -dsimp -implicitDefEqProofs only [go_sem];exact ⟨by omega,⟨by omega,by omega⟩,by simp⟩
      have hcB:aT m (dy ls ab) n c i u=(⟨u.ae+1,c++[(i:Int)],u.s⟩,true):=by rw [aT,if_pos hsT,if_neg (by rw [dI,hq2];exact fun h=>by cases h),hu1]
      rw [hcB];clear hcB cA;simp -dsimp -implicitDefEqProofs only [go_sem,htk,n6,htl];(refine ak (cJ) ?_;try simp -dsimp -implicitDefEqProofs only [go_sem, *]);exact ⟨by exact rfl,by omega,⟨by omega,by omega⟩,by simp⟩
    have hkp:=oT hk0;have hla:c.getD (c.length-1) 0=c[c.length-1]:=by simp [uq7,show c.length-1<c.length by omega]
    have j7:(bf eI u.zs)[c.length-1]? =some (eI (c.getD (c.length-1) 0)):=by
     have h1:(aW c.length (bf eI u.zs))[c.length-1]? =(bf eI u.zs)[c.length-1]? :=by rw [List.getElem?_take];simp;omega
     rw [←h1,htk,hla];simp [show c.length-1<c.length by omega]
    have hlb:=hc _ (uq9 (show c.length-1<c.length by omega));rw [←hla] at hlb;generalize c.getD (c.length-1) 0=z at*;clear hla;have e1:((c.length:Int)-1).toNat=c.length-1:=by omega
    have pQ:=jl ((i:Int)-z) (by omega);rcases hq:decide (e8 ((i:Int)-z)>m.step) with _|_
    . have hsT:bJ m c i=true:=by rw [lT,hq];simp
      simp -dsimp -implicitDefEqProofs only [go_sem,hfn,hk0,e1,j7];refine ⟨⟨by omega,by omega⟩,⟨by omega,by omega⟩,⟨by omega,by omega⟩,?_⟩;(refine ak (pQ) ?_;try simp -dsimp -implicitDefEqProofs only [go_sem, *]);refine ⟨by exact rfl,by omega,?_⟩;refine aj.k9 13 mixed rfl ?_;simp -dsimp -implicitDefEqProofs only [aO,cS,uq5,uq6];have htl:aW (c.length+1) (bf eI (c++[(i:Int)]))=bf eI (c++[(i:Int)]):=aP (by simp);rcases hq2:decide ((a6 (c++[(i:Int)]) c.length:Int)>m.same) with _|_
      . have hcB:aT m (dy ls ab) n c i u=bp m (dy ls ab) n (c++[(i:Int)]) ⟨u.ae+1,c++[(i:Int)],u.s⟩:=by rw [aT,if_pos hsT,if_pos (by rw [dI,hq2];rfl),hu1]
        rw [hcB] at cA ⊢;clear hcB;generalize bp m (dy ls ab) n (c++[(i:Int)]) ⟨u.ae+1,c++[(i:Int)],u.s⟩=w at*;obtain ⟨w,b⟩:=w;simp -dsimp -implicitDefEqProofs only [go_sem,htl];(refine ak (cJ) ?_;try simp -dsimp -implicitDefEqProofs only [go_sem, *]);refine ⟨by exact rfl,?_⟩;refine cW hih ⟨⟨?_,?_⟩,?_,?_⟩ ?_
        . simp -dsimp -implicitDefEqProofs only [go_sem]
        . simp -dsimp -implicitDefEqProofs only [go_sem];simp [an,aq,ck]
        . simp -dsimp -implicitDefEqProofs only [go_sem]
        . simp -dsimp -implicitDefEqProofs only [go_sem];simp
        rintro r m' ⟨hr,hm'⟩;rw [hr,hm'];clear hr hm';cases b with
        |false=>
         rw [cA rfl];simp -dsimp -implicitDefEqProofs only [go_sem];refine ⟨by omega,_,rfl,aL ?_ ?_⟩
         . simp -dsimp -implicitDefEqProofs only [go_sem]
         simp -dsimp -implicitDefEqProofs only [go_sem];simp [an,aq,ck]
        |true=>
         simp -dsimp -implicitDefEqProofs only [go_sem];exact ⟨by omega,⟨by omega,by omega⟩,by simp⟩
      have hcB:aT m (dy ls ab) n c i u=(⟨u.ae+1,c++[(i:Int)],u.s⟩,true):=by rw [aT,if_pos hsT,if_neg (by rw [dI,hq2];exact fun h=>by cases h),hu1]
      rw [hcB];clear hcB cA;simp -dsimp -implicitDefEqProofs only [go_sem,htl];(refine ak (cJ) ?_;try simp -dsimp -implicitDefEqProofs only [go_sem, *]);exact ⟨by exact rfl,by omega,⟨by omega,by omega⟩,by simp⟩
    have hsF:bJ m c i=false:=by
     rw [lT,hq];cases c with
     |nil=>simp at hkp
     |cons=>rfl
    have hcB:aT m (dy ls ab) n c i u=(u,true):=by rw [aT,if_neg (by rw [hsF];exact fun h=>by cases h)]
    rw [hcB];clear hcB cA;simp -dsimp -implicitDefEqProofs only [go_sem,hfn,hk0,e1,j7];refine ⟨⟨by omega,by omega⟩,⟨by omega,by omega⟩,⟨by omega,by omega⟩,?_⟩;(refine ak (pQ) ?_;try simp -dsimp -implicitDefEqProofs only [go_sem, *]);exact ⟨by exact rfl,⟨by omega,by omega⟩,by simp⟩
  simp -dsimp -implicitDefEqProofs only [pz,cG,cH,bh,↓reduceIte,bK];have hlt:decide (((m.ao.toNat:Nat):Int)<m.ao)=false:=dF (by omega);simp -dsimp -implicitDefEqProofs only [go_sem,hlt];rw [dP];refine ⟨_,⟨by rw [hI],rfl⟩,aL ?_ ?_⟩
  . simp -dsimp -implicitDefEqProofs only [go_sem]
  simp -dsimp -implicitDefEqProofs only [go_sem];simp [an,aq,ck]
def dn (ls:List lL) (k:lI):Nat:=(bD ls k ls.length).length
def F0 (ls:List lL) (ab ks:lL) (d:Nat):Option lI:=ks.find? fun k=> !Du ab k&&decide (dn ls k=d)
def M0 (ls:List lL) (ab ks:lL):Nat->lL
 |0=>[]
 |d+1=>match F0 ls ab ks (d+1) with
  |some k=>[k]
  |none=>M0 ls ab ks d
theorem JW (ls:List lL) (ab ks:lL):∀d,∀k∈M0 ls ab ks d,k∈ks
 |0,k,h=>by cases h
 |d+1,k,h=>by
  unfold M0 at h;split at h
  . rename_i k' e;rw [List.mem_singleton] at h;subst h;exact List.mem_of_find?_eq_some e
  exact JW ls ab ks d k h
theorem BT (ls:List lL) (ab:lL) (n1:Nat) (hn:ls.length<n1):∀(ks:lL) (st:List (Option lI)),st.length=n1→
 (bC (dy ls ab) st ks).2=true/\(bC (dy ls ab) st ks).1.length=n1/\(bC (dy ls ab) st ks).1.getD 0 none=st.getD 0 none∧
   ∀d,0<d->d<n1->(bC (dy ls ab) st ks).1.getD d none=(st.getD d none).or (F0 ls ab ks d)
 | [],st,h=>⟨rfl,h,rfl,fun d _ _=>by simp [bC,F0]⟩
 |k::ks,st,h=>by
  have ht:(dy ls ab st k).2=true:=rfl;have hl:(dy ls ab st k).1.length=n1:=BQ n1 ls ab 0 st k h;obtain ⟨i1,i2,i3,i4⟩:=BT ls ab n1 hn ks (dy ls ab st k).1 hl;rw [bC,if_pos ht];have hdl:(bD ls k ls.length).length<=ls.length:=gu ls k ls.length;refine ⟨i1,i2,?_,fun d hd hdn=> ?_⟩
  . rw [i3];unfold dy;simp only;split
    . rfl
    split
    . rename_i h0;rw [uq7,List.getElem?_set_ne (by omega),←uq7]
    rfl
  rw [i4 d hd hdn];unfold F0;rw [List.find?_cons];unfold dy;simp only;cases hin:Du ab k with
  |true=>simp
  |false=>
   rw [if_neg (by simp)];simp only [Bool.not_false,uq3];by_cases e:dn ls k=d
   . rw [decide_eq_true e];simp only;have e':(bD ls k ls.length).length=d:=e;rw [e'];by_cases hz:st.getD d none=none
     . rw [if_pos ⟨hd,hz⟩,hz,uq7,List.getElem?_set_self (by omega)];rfl
     rw [if_neg (fun hh=>hz hh.2)];cases hs:st.getD d none with
     |none=>exact absurd hs hz
     |some x=>rfl
   rw [decide_eq_false e];simp only;split
   . rw [uq7,List.getElem?_set_ne (by exact e),←uq7]
   rfl
def oF (st:List (Option lI)) (n:Nat) (l:lN):Option lI:=l.foldl (fun o x=>o.or (st.getD (n-1-x) none)) none
theorem C3 (st:List (Option lI)) (n:Nat) (l:lN) (x:Nat):oF st n (l++[x])=(oF st n l).or (st.getD (n-1-x) none):=by simp [oF]
theorem F1 (ls:List lL) (ab ks:lL) (st:List (Option lI)) (n:Nat) (h:∀d,0<d->d<n+1->st.getD d none=F0 ls ab ks d):
 ∀k,k<=n->M0 ls ab ks n=match oF st (n+1) (bO k) with|some x=>[x]|none=>M0 ls ab ks (n-k)
 |0,_=>rfl
 |k+1,hk=>by
  have ih:=F1 ls ab ks st n h k (by omega);rw [ih,List.range_succ,C3];cases ho:oF st (n+1) (bO k) with
  |some x=>rfl
  |none=>
   simp only [Option.none_or];rw [h (n+1-1-k) (by omega) (by omega)];obtain ⟨d,hd⟩:∃d,n-k=d+1:=⟨n-k-1,by omega⟩;rw [hd,show n+1-1-k=d+1 by omega,show n-(k+1)=d by omega,M0]
theorem Vx (ls:List lL) (ab ks:lL) (st:List (Option lI)) (n:Nat) (h0:st.getD 0 none=none) (h:∀d,0<d->d<n+1->st.getD d none=F0 ls ab ks d):
 (oF st (n+1) (bO (n+1))).toList=M0 ls ab ks n:=by
 rw [F1 ls ab ks st n h n (fH _),List.range_succ,C3,show n+1-1-n=0 by omega,h0,show n-n=0 by omega];cases oF st (n+1) (bO n)<;>rfl
def pN (ls:List lL) (gs:lL) (d:Nat):Option lI:=gs.find? fun k=>decide (dn ls k=d)
theorem F2 (ls:List lL) (ab ks:lL) (d:Nat) (hd:0<d):pN ls (ks.filter (JT ls ab)) d=F0 ls ab ks d:=by
 unfold pN F0;rw [List.find?_filter];congr 1;funext k;unfold JT;rw [tx ls k ls.length (fH _)];by_cases e:dn ls k=d
 . have:0<(bD ls k ls.length).length:=by unfold dn at e;omega
   rw [decide_eq_true this,decide_eq_true e,uq3];simp
 rw [decide_eq_false e];simp
theorem My (ls:List lL) (gs:lL) (d i:Nat) (h:i<gs.length) (hn:pN ls (gs.take i) d=none):pN ls (gs.take (i+1)) d=if dn ls gs[i]=d then some gs[i] else none:=by
 unfold pN at*;rw [du h,List.find?_append,hn,Option.none_or,List.find?_cons];by_cases e:dn ls gs[i]=d
 . rw [decide_eq_true e,if_pos e]
 rw [decide_eq_false e,if_neg e];rfl
theorem Mz (ls:List lL) (gs:lL) (d i:Nat) (k:lI) (h:pN ls (gs.take i) d=some k):pN ls gs d=some k:=by
 unfold pN at*;conv=>lhs;rw [←List.take_append_drop i gs,List.find?_append,h]
 rfl
def MA (ls:List lL) (gs:lL) (n:Nat):Nat->Option lI
 |0=>none
 |i+1=>(MA ls gs n i).or (pN ls gs (n-i))
theorem JX (ls:List lL) (ab ks:lL) (n:Nat):∀i,i<=n->M0 ls ab ks n=match MA ls (ks.filter (JT ls ab)) n i with|some k=>[k]|none=>M0 ls ab ks (n-i)
 |0,_=>rfl
 |i+1,h=>by
  rw [JX ls ab ks n i (by omega),MA];cases MA ls (ks.filter (JT ls ab)) n i with
  |some k=>rfl
  |none=>
   obtain ⟨d,hd⟩:∃d,n-i=d+1:=⟨n-i-1,by omega⟩;rw [Option.none_or,F2 ls ab ks (n-i) (by omega),hd,show n-(i+1)=d by omega];simp only [M0]
theorem SV (ls:List lL) (ab ks:lL) (n:Nat):(MA ls (ks.filter (JT ls ab)) n n).toList=M0 ls ab ks n:=by rw [JX ls ab ks n n (fH _),Nat.sub_self];cases MA ls (ks.filter (JT ls ab)) n n<;>rfl
theorem T1 {m:aK} {t ab:lL} (hF:Mw m t ab):FZ m ab (ay m t ab (t.getD 0 []).length) ((t.getD 0 []).length+1):=by
 have hll:(ay m t ab (t.getD 0 []).length).length=(t.getD 0 []).length:=by rw [ay,dt,cF]
 have hwd:=hF.wd;have vC:=hF.num;refine ⟨by have:=hF.tl;have:=hF.le;omega,fun x hx=>by have:=(hF.cut x hx).1;omega,by omega,fun l hl=> ?_,by omega⟩;obtain ⟨k,_,rfl⟩:=lP hl;obtain ⟨h1,h2⟩:=th hF k;exact ⟨h1,fun x hx=>by have:=h2 x hx;omega⟩
def BU (m:aK) (t ab:lL):lI:=(bC (bP (ay m t ab (t.getD 0 []).length) ab) (c8 ((t.getD 0 []).length+1) 0) (bx m)).1
theorem F3 (m:aK) (t ab:lL) (hF:Mw m t ab):Fn pG 233 [jM m t,aR ab] true (· =aQ (BU m t ab)):=by
 refine Fn.au 18 [.tmp 4] func233 (hv:= ?_);have hV:=T1 hF;have hm:=hF.pF;have vC:=hF.num;have hwd:=hF.wd;have hp:=gp m t ab hF.pF hF.tl hF.le hF.t0 hF.row hF.wd hF.cut;have ht0:=hF.t0;have g0:=get_some ht0;have eg:t[0]=t.getD 0 []:=by rw [uq7,g0];rfl
 rw [eg] at g0;have h0:qe ((t.getD 0 []).length+1) 0 (c8 ((t.getD 0 []).length+1) (0:Int)):=⟨by simp,fun x hx=>by have:=List.eq_of_mem_replicate hx;omega⟩;have h8:(8:Nat)^m.af.toNat<=8^6:=Nat.pow_le_pow_right (by decide) (by omega);have eQ:=W9 m hm ab _ _ hV m.af.toNat [] ⟨0,[],c8 ((t.getD 0 []).length+1) 0⟩ (by simp;omega) (fun x hx=>by cases hx) ⟨rfl,fH _⟩ ⟨0,h0,by omega⟩;have hsp:=(iC m (bP (ay m t ab (t.getD 0 []).length) ab) m.af.toNat [] ⟨0,[],c8 ((t.getD 0 []).length+1) 0⟩ ⟨rfl,fH _⟩).2.1;unfold BU;rw [show a7 m m.af.toNat []=bx m from rfl] at hsp;have hll:(ay m t ab (t.getD 0 []).length).length=(t.getD 0 []).length:=by rw [ay,dt,cF]
 have hwl:=(qN (ay m t ab (t.getD 0 []).length) ab (bx m) (c8 ((t.getD 0 []).length+1) 0) (by rw [hll,List.length_replicate])).2.1;rw [←hsp] at hwl ⊢;rw [hll] at hwl;clear hsp h0 h8 hV hll;generalize bp m (bP (ay m t ab (t.getD 0 []).length) ab) m.af.toNat [] ⟨0,[],c8 ((t.getD 0 []).length+1) 0⟩=w at*;generalize ay m t ab (t.getD 0 []).length=ls at*;generalize t.getD 0 []=r0 at*;simp only [bu,eP] at eQ;have eN:((r0.length:Int)+1).toNat=r0.length+1:=by omega
 simp -dsimp -implicitDefEqProofs only [go_sem,g0,eN];((with_reducible and_intros);all_goals try first|omega|(refine ⟨?_,?_⟩<;>omega));refine ca 300000 14 [] func171 rfl rfl rfl rfl rfl (by exact oT rfl) ?_;simp -dsimp -implicitDefEqProofs only [go_sem];refine av hp (by simp [ax,an,aq,aG]) ?_;simp -dsimp -implicitDefEqProofs only [go_sem];refine oL 1600000000 310000 16 [] func222 rfl rfl rfl rfl rfl (by exact oT rfl) ?_;simp -dsimp -implicitDefEqProofs only [go_sem];refine ji 1700000000 eQ ⟨?_,?_⟩ ⟨⟨?_,?_⟩,?_,?_⟩ ?_
 . simp -dsimp -implicitDefEqProofs only [go_sem]
 . simp -dsimp -implicitDefEqProofs only [go_sem]
 . simp -dsimp -implicitDefEqProofs only [go_sem]
 . simp -dsimp -implicitDefEqProofs only [go_sem];simp [an,aq,ck]
 . simp -dsimp -implicitDefEqProofs only [go_sem,List.map_replicate]
 . simp -dsimp -implicitDefEqProofs only [go_sem];simp
 rintro r m' ⟨hr,hm'⟩;rw [hr,hm'];simp -dsimp -implicitDefEqProofs only [go_sem];refine ⟨⟨by omega,by simp⟩,by rw [aP (by simp;omega)]⟩
theorem Vy (xs:lI) (h:xs.length<=1048576) (h0:∀x∈xs,0<=x/\x<=1000000):Fn pG 232 [aQ xs] true (· =eI xs.sum):=by
 refine Fn.au 17 [.tmp 2] func232 (hv:= ?_);simp -dsimp -implicitDefEqProofs only [go_sem];refine aj.up [6,7] [] [] xs.length (fun i=>0<=(xs.take i).sum/\(xs.take i).sum<=1000000*i) (fun i=>[(8,eI i),(3,eI (xs.take i).sum)]) (fun _=>[]) (by simp) ?_ rfl (fun i hi hI=> ?_) (fun hI=> ?_)
 . simp -dsimp -implicitDefEqProofs only [go_sem];all_goals first|rfl|skip
 . have gi:=get_some hi;have hx:=h0 _ (uq9 hi);have hs:(xs.take (i+1)).sum=(xs.take i).sum+xs[i]:=by rw [du hi,List.sum_append];simp
   rw [hs];generalize (xs.take i).sum=s at*;generalize xs[i]=x at*;simp -dsimp -implicitDefEqProofs only [pz,↓reduceIte,bK];simp -dsimp -implicitDefEqProofs only [go_sem,aE hi,gi];((with_reducible and_intros);all_goals try first|omega|(refine ⟨?_,?_⟩<;>omega)|exact rfl)
 simp -dsimp -implicitDefEqProofs only [pz,↓reduceIte,bK];simp -dsimp -implicitDefEqProofs only [go_sem,aA,bd]
theorem yI (m:aK) (t ab:lL) (h:t.length<=1048576) (h2:∀x∈t,x.length<=1048576) (h3:ab.length<=1048576) (h4:∀x∈ab,x.length<=1048576):Fn pG 179 [jM m t,aR ab] true (· = .aX [eI (if bk m t ab=true then (cg m t ab).length else 0),eI (if bk m t ab=true then 0 else 1)]):=by
 refine Fn.au 18 [.tmp 4,.tmp 5] func179 (hv:= ?_);have hc:=kf m t ab h h2 h3 h4;rcases hd:bk m t ab with _|_
 . rw [hd,if_neg (by simp)] at hc;rw [if_neg (by simp),if_neg (by simp)];have e:((1:Int) != 0)=true:=rfl;simp -dsimp -implicitDefEqProofs only [go_sem];refine aa hc ?_;simp -dsimp -implicitDefEqProofs only [go_sem,e]
 rw [hd,if_pos rfl] at hc;rw [if_pos rfl,if_pos rfl];have hF:=iX hd;have hp:=F3 m t ab hF;have hll:(ay m t ab (t.getD 0 []).length).length=(t.getD 0 []).length:=by rw [ay,dt,cF]
 obtain ⟨-,v1,v2⟩:=qN (ay m t ab (t.getD 0 []).length) ab (bx m) (c8 ((t.getD 0 []).length+1) 0) (by rw [hll,List.length_replicate]);have hz:((c8 ((t.getD 0 []).length+1) (0:Int)).drop 1).sum=0:=by simp
 rw [hz,Int.zero_add] at v2;have v2:((BU m t ab).drop 1).sum=((cg m t ab).length:Int):=v2;have hJ:∃b,qe ((t.getD 0 []).length+1) b (BU m t ab)/\b<=1000000:=by have h0:qe ((t.getD 0 []).length+1) 0 (c8 ((t.getD 0 []).length+1) (0:Int)):=⟨by simp,fun x hx=>by have:=List.eq_of_mem_replicate hx;omega⟩;have vC:=hF.num;have h8:(8:Nat)^m.af.toNat<=8^6:=Nat.pow_le_pow_right (by decide) (by omega);have hsp:=(iC m (bP (ay m t ab (t.getD 0 []).length) ab) m.af.toNat [] ⟨0,[],c8 ((t.getD 0 []).length+1) 0⟩ ⟨rfl,fH _⟩).2.1;have hj:=yG hF.pF (nD ((t.getD 0 []).length+1)) (yH ((t.getD 0 []).length+1) (ay m t ab (t.getD 0 []).length) ab) m.af.toNat [] ⟨0,[],c8 ((t.getD 0 []).length+1) 0⟩ 0 h0;rw [hsp] at hj;exact ⟨_,hj,by omega⟩
 obtain ⟨b,⟨hl,hb⟩,hb6⟩:=hJ;have hwd:=hF.wd;have hs:=Vy ((BU m t ab).drop 1) (by simp;omega) (fun x hx=>by have:=hb x (List.mem_of_mem_drop hx);omega);rw [v2] at hs;generalize BU m t ab=st at*;have e:((0:Int) != 0)=false:=rfl;have eT:aW (st.length-1) (List.drop 1 (bf eI st))=bf eI (List.drop 1 st):=by rw [List.map_drop,aP (by simp)]
 simp -dsimp -implicitDefEqProofs only [go_sem];refine aa hc ?_;simp -dsimp -implicitDefEqProofs only [go_sem,e];refine aa hp ?_;simp -dsimp -implicitDefEqProofs only [go_sem,eT];((with_reducible and_intros);all_goals try (omega));refine aa hs ?_;simp -dsimp -implicitDefEqProofs only [go_sem]
def yJ (m:aK) (t ab:lL):lL:=if bk m t ab=true then M0 (ay m t ab (t.getD 0 []).length) ab (bx m) (t.getD 0 []).length else []
theorem SW (b1 b2 b3 b4 b5:bj) (l:Nat):(if 1500000010=l then some b1 else if 1500000033=l then some b2 else if 1500000010=l then some b3 else if 1500000033=l then some b4 else if 1500000005=l then some b5 else none)=
 ah [(1500000010,b1),(1500000033,b2),(1500000005,b5)] l:=by
 simp only [aw,sx];by_cases h1:1500000010=l
 . rw [if_pos h1,if_pos h1]
 by_cases h2:1500000033=l
 . rw [if_neg h1,if_pos h2,if_neg h1,if_pos h2]
 rw [if_neg h1,if_neg h1,if_neg h1,if_neg h2,if_neg h2,if_neg h2]
theorem P3 (m:aK) (t ab:lL) (h:t.length<=1048576) (h2:∀x∈t,x.length<=1048576) (h3:ab.length<=1048576) (h4:∀x∈ab,x.length<=1048576):Fn pG 123 [jM m t,aR ab,eI 1] false (fun r=>sJ r (.aX [aR (yJ m t ab),eI (if bk m t ab=true then 0 else 1)])):=by
 refine Fn.XX func123 rfl rfl (oT rfl) ?_;have er:(Tryz.f123).results.toList=[.tmp 6,.tmp 7]:=rfl;have hc:=kf m t ab h h2 h3 h4;unfold yJ;rcases hd:bk m t ab with _|_
 . rw [hd,if_neg (by simp)] at hc;rw [if_neg (by simp),if_neg (by simp)];have e:((1:Int) != 0)=true:=rfl;refine CL.seq (by exact rfl) ?_;simp -dsimp -implicitDefEqProofs only [go_sem];refine CL.seq (by exact rfl) ?_;simp -dsimp -implicitDefEqProofs only [go_sem];refine aa hc ?_;simp -dsimp -implicitDefEqProofs only [go_sem,er,e]
 rw [hd,if_pos rfl] at hc;rw [if_pos rfl,if_pos rfl];have e:((0:Int) != 0)=false:=rfl;have hw:=kO 1 0 300;rw [show bB 1 0 300=true from rfl] at hw;have hF:=iX hd;have hV:=T1 hF;have hm:=hF.pF;have vC:=hF.num;have hwd:=hF.wd;have hp:=gp m t ab hF.pF hF.tl hF.le hF.t0 hF.row hF.wd hF.cut;have ht0:=hF.t0;have g0:=get_some ht0;have eg:t[0]=t.getD 0 []:=by rw [uq7,g0];rfl
 rw [eg] at g0;refine CL.seq (by exact rfl) ?_;simp -dsimp -implicitDefEqProofs only [go_sem];refine CL.seq (by exact rfl) ?_;simp -dsimp -implicitDefEqProofs only [go_sem];refine aa hc ?_;simp -dsimp -implicitDefEqProofs only [go_sem,e];refine CL.seq (by exact rfl) ?_;simp -dsimp -implicitDefEqProofs only [go_sem];refine aa hw ?_;simp -dsimp -implicitDefEqProofs only [go_sem];refine CL.seq (by exact rfl) ?_;have eN:(((t.getD 0 []).length:Int)+1).toNat=(t.getD 0 []).length+1:=by omega
 simp -dsimp -implicitDefEqProofs only [go_sem,g0,eN];((with_reducible and_intros);all_goals try first|omega|(refine ⟨?_,?_⟩<;>omega))
 have eQ:=Xb m hm ab _ _ hV m.af.toNat [] ⟨0,[],c8 ((t.getD 0 []).length+1) none⟩ (by simp;omega) (fun x hx=>by cases hx) ⟨rfl,fH _⟩ (by
  have h8:(8:Nat)^m.af.toNat<=8^6:=Nat.pow_le_pow_right (by decide) (by omega)
  exact ⟨0,by simp [C2],by omega⟩)
 have hsp:=(iC m (dy (ay m t ab (t.getD 0 []).length) ab) m.af.toNat [] ⟨0,[],c8 ((t.getD 0 []).length+1) none⟩ ⟨rfl,fH _⟩).2.1;rw [show a7 m m.af.toNat []=bx m from rfl] at hsp;have hll:(ay m t ab (t.getD 0 []).length).length=(t.getD 0 []).length:=by rw [ay,dt,cF]
 obtain ⟨-,w1,w2,w3⟩:=BT (ay m t ab (t.getD 0 []).length) ab ((t.getD 0 []).length+1) (by omega) (bx m) (c8 ((t.getD 0 []).length+1) none) (by simp)
 have hw:=Vx (ay m t ab (t.getD 0 []).length) ab (bx m) _ (t.getD 0 []).length (w2.trans (by simp [uq7])) (fun d h0 h1=>(w3 d h0 (by omega)).trans (by
  have:(c8 ((t.getD 0 []).length+1) (none:Option lI)).getD d none=none:=by rw [uq7,List.getElem?_replicate];split<;>rfl
  rw [this,Option.none_or]))
 rw [←hsp] at w1 hw;rw [←hw];clear hsp hw w2 w3 hV hll;generalize bp m (dy (ay m t ab (t.getD 0 []).length) ab) m.af.toNat [] ⟨0,[],c8 ((t.getD 0 []).length+1) none⟩=w at*;generalize ay m t ab (t.getD 0 []).length=ls at*;generalize t.getD 0 []=r0 at*;simp only [bu,eP] at eQ;generalize hoo:(oF w.1.s (r0.length+1) (bO (r0.length+1))).toList=R;refine CL.Cc 28 0 ⟨1,false⟩ (c8 (r0.length+1) (AV.val (Value.slice none 0 0))) (by decide) rfl ?_;refine CL.seq (by exact rfl) ?_;simp -dsimp -implicitDefEqProofs only [go_sem];refine ca 300000 14 [] func171 rfl rfl rfl rfl rfl (by exact oT rfl) ?_;simp -dsimp -implicitDefEqProofs only [go_sem];refine av hp (by simp [ax,an,aq,aG]) ?_;simp -dsimp -implicitDefEqProofs only [go_sem];refine oL 1600000000 310000 16 [] func222 rfl rfl rfl rfl rfl (by exact oT rfl) ?_;simp -dsimp -implicitDefEqProofs only [go_sem];refine ji 1700000000 eQ ⟨?_,?_⟩ ⟨⟨?_,?_⟩,?_,?_⟩ ?_
 . simp -dsimp -implicitDefEqProofs only [go_sem]
 . simp -dsimp -implicitDefEqProofs only [go_sem]
 . simp -dsimp -implicitDefEqProofs only [go_sem]
 . simp -dsimp -implicitDefEqProofs only [go_sem];simp [an,aq,ck]
 . simp -dsimp -implicitDefEqProofs only [go_sem,List.map_replicate,GJ]
 . simp -dsimp -implicitDefEqProofs only [go_sem];simp
 rintro r m' ⟨hr,hm'⟩;rw [hr,hm'];simp -dsimp -implicitDefEqProofs only [go_sem];refine CL.seq (by exact rfl) ?_;simp -dsimp -implicitDefEqProofs only [go_sem];refine CL.XW (by exact rfl) ?_;simp -dsimp -implicitDefEqProofs only [go_sem];refine ⟨by omega,?_⟩;refine kK 28 0 ⟨1,false⟩ false (bf GJ w.1.s) (IH (aW (r0.length+1) (List.drop 0 (bf GJ w.1.s)))) (by decide) rfl ?_ (fun r hr=> ?_)
 . exact mD 0 (r0.length+1) (by simp [w1]) LB
 have ez:aW (r0.length+1) (List.drop 0 (bf GJ w.1.s))=bf GJ w.1.s:=by rw [uq6,aP (by simp [w1])]
 rw [ez] at hr;rw [hr];simp -dsimp -implicitDefEqProofs only [go_sem];refine TX.keep [10,33,5] [(10,.box 0 [.ref 33 0 0 0]),(33,.row 0 ⟨1,false⟩ true []),(5,.box 0 [eI 1])] [(10,.ptr 10 0 0 0),(5,.ptr 5 0 0 0),(35,.cm 225 [.bq ⟨1,false⟩ [.arr ⟨1,false⟩ (bf GJ w.1.s)] 0 0])] (aL ?_ ?_) ?_ ?_ ?_
 . simp -dsimp -implicitDefEqProofs only [go_sem]
 . simp -dsimp -implicitDefEqProofs only [go_sem];simp
 . simp -dsimp -implicitDefEqProofs only [go_sem]
 . simp [an,aq]
 have hr0:r0.length<=1000:=hwd;clear eQ hm' hr hc hF vC hwd hp
 refine TX.Vh (ys:=gI (w.1.s.map fun o=>aR o.toList)) 10 (fun pre m1=>∃v,m1=[(1500000010,.box 0 [.ref 1500000033 v 0 (oF w.1.s (r0.length+1) (pre.map (·.1))).toList.length]),(1500000033,.row v ⟨1,false⟩ (oF w.1.s (r0.length+1) (pre.map (·.1))).isNone ((oF w.1.s (r0.length+1) (pre.map (·.1))).toList.map aQ)),(1500000005,.box 0 [eI 1])]) [(10,.ptr 1500000010 0 0 0),(5,.ptr 1500000005 0 0 0),(35,.cm 225 [.bq ⟨1,false⟩ [.arr ⟨1,false⟩ (bf GJ w.1.s)] 0 0])] ?_ mixed rfl (by simp [an,aq])
  (C0 _ _ (by simp) (fun i h1 h2=> ?_) (by rw [dt,w1];omega)) ?_ ⟨_,⟨0,rfl⟩,fun l=> ?_⟩ (fun pre m1 ⟨v,h⟩=>by rw [h];simp [p9,bE]) (by exact rfl) (by exact rfl) (fun pre x m1 hp hm1=> ?_) (fun m1 hm1=> ?_)
 . simp -dsimp -implicitDefEqProofs only [go_sem]
 . simp only [List.getElem_map];refine ⟨_,rfl,?_⟩;cases w.1.s[i]'(by simpa using h1) with
   |none=>exact .inr ⟨rfl,rfl⟩
   |some k=>exact .inl rfl
 . simp -dsimp -implicitDefEqProofs only [go_sem]
 . simp -dsimp -implicitDefEqProofs only [go_sem];simp [oF]
 . obtain ⟨v,rfl⟩:=hm1;have hx:x.1<w.1.s.length:=Nat.lt_of_lt_of_eq x.2 (by rw [pH,dt]);have ey:(gI (w.1.s.map fun o=>aR o.toList))[x]=(eI ((r0.length-x.1:Nat):Int),aR (w.1.s.getD (r0.length+1-1-x.1) none).toList):=by
    rw [BO,dt,w1,uq7,List.getElem?_map,uq7 (l:=w.1.s),uq8 (by omega)];rfl
   rw [ey,cj,c7,eP,C3];generalize w.1.s.getD (r0.length+1-1-x.1) none=z at*;generalize oF w.1.s (r0.length+1) (pre.map (·.1))=o at*;simp -dsimp -implicitDefEqProofs only [aO,cS,uq5,uq6];have t0:Int.toNat 0=0:=rfl;have t1:Int.toNat 1=1:=rfl;rcases o with _|k0<;>rcases z with _|k1
   . simp only [Dj,bu,eP,GF,Option.none_or];have f:(if (1:Int)-0<0 then (1:Int)-0 else 0)=0:=by decide
     simp -dsimp -implicitDefEqProofs only [go_sem,f,t0];((with_reducible and_intros);all_goals try first|omega|(refine ⟨?_,?_⟩<;>omega)|exact rfl);exact ⟨_,⟨v+1,rfl⟩,SW _ _ _ _ _⟩
   . simp only [Dj,Dl,bu,dB,c7,eP,GF,GG,Option.none_or];have f:(if (1:Int)-0<((1:Nat):Int) then (1:Int)-0 else ((1:Nat):Int))=1:=by decide
     simp -dsimp -implicitDefEqProofs only [go_sem,f,t1];((with_reducible and_intros);all_goals try first|omega|(refine ⟨?_,?_⟩<;>omega)|exact rfl);exact ⟨_,⟨v+1,rfl⟩,SW _ _ _ _ _⟩
   . simp only [Dj,Dl,bu,dB,c7,eP,GG,Option.some_or];have f:(if (1:Int)-((1:Nat):Int)<0 then (1:Int)-((1:Nat):Int) else 0)=0:=by decide
     simp -dsimp -implicitDefEqProofs only [go_sem,f,t0];((with_reducible and_intros);all_goals try first|omega|(refine ⟨?_,?_⟩<;>omega)|exact rfl);exact ⟨_,⟨v+1,rfl⟩,SW _ _ _ _ _⟩
   simp only [Dl,bu,dB,c7,eP,GG,Option.some_or];have f:(if (1:Int)-((1:Nat):Int)<((1:Nat):Int) then (1:Int)-((1:Nat):Int) else ((1:Nat):Int))=0:=by decide
   simp -dsimp -implicitDefEqProofs only [go_sem,f,t0];((with_reducible and_intros);all_goals try first|omega|(refine ⟨?_,?_⟩<;>omega)|exact rfl);exact ⟨_,⟨v+1,rfl⟩,SW _ _ _ _ _⟩
 obtain ⟨v,rfl⟩:=hm1;have hn:(gI (w.1.s.map fun o=>aR o.toList)).length=r0.length+1:=by rw [pH,dt,w1]
 have ef:∀n,((List.finRange n).map (·.1))=bO n:=fun n=>List.ext_getElem (by simp) (fun i h1 h2=>by simp);rw [ef,hn];generalize oF w.1.s (r0.length+1) (bO (r0.length+1))=o at*;subst hoo;simp -dsimp -implicitDefEqProofs only [go_sem,er]
theorem P4 (m:aK) (t ab:lL) (h:t.length<=1048576) (h2:∀x∈t,x.length<=1048576) (h3:ab.length<=1048576) (h4:∀x∈ab,x.length<=1048576):Fn pG 106 [jM m t,aR ab,eI 1] false (fun r=>sJ r (.aX [aR (yJ m t ab),eI (if bk m t ab=true then 0 else 1)])):=by
 refine Fn.cf 69 [.tmp 6,.tmp 7] func106 (hv:= ?_);have hc:=pE m t ab h h2 h3 h4;unfold yJ;rcases hd:bk m t ab with _|_
 . rw [hd,if_neg (by simp)] at hc;rw [if_neg (by simp),if_neg (by simp)];have e:((1:Int) != 0)=true:=rfl;have e2:((1:Int)==0)=false:=rfl;simp -dsimp -implicitDefEqProofs only [go_sem];refine aa hc ?_;simp -dsimp -implicitDefEqProofs only [go_sem,e,e2]
 rw [hd,if_pos rfl] at hc;rw [if_pos rfl,if_pos rfl];have e:((0:Int) != 0)=false:=rfl;have e2:((0:Int)==0)=true:=rfl;have hF:=iX hd;have hw:=jz 1 0 300;rw [show bB 1 0 300=true from rfl] at hw;have ho:=oY m t ab hF;have hdr:=yC m t ab hF;have hgl:=qM hF.pF t ab;have ht0:=hF.t0;have g0:=get_some ht0;have eg:t[0]=t.getD 0 []:=by rw [uq7,g0];rfl
 rw [eg] at g0;simp -dsimp -implicitDefEqProofs only [go_sem];refine aa hc ?_;simp -dsimp -implicitDefEqProofs only [go_sem,e2];refine aa hw ?_;simp -dsimp -implicitDefEqProofs only [go_sem,e];refine av ho (by simp [ax,an,aq,aG]) ?_;have hgk:∀k∈cg m t ab,(k.length:Int)=m.af:=fun k hk=>(kg (m:=m) (by have:=hF.num;omega) (List.mem_filter.1 hk).1).len;have hdn:∀k∈cg m t ab,Fn pG 150 [jM m t,aR ab,aQ k] true (· =aQ (FV m t ab k)):=fun k hk=>hdr k (hgk k hk);have hl:∀k,(FV m t ab k).length=dn (ay m t ab (t.getD 0 []).length) k:=fun k=>by unfold FV dn;rw [show (ay m t ab (t.getD 0 []).length).length=(t.getD 0 []).length by rw [ay,dt,cF]]
 have cR:=SV (ay m t ab (t.getD 0 []).length) ab (bx m) (t.getD 0 []).length;rw [show (bx m).filter (JT (ay m t ab (t.getD 0 []).length) ab)=cg m t ab from rfl] at cR;rw [←cR];clear cR;have hwd:=hF.wd;clear hdr hgk hc hw;generalize cg m t ab=gs at*;generalize ay m t ab (t.getD 0 []).length=ls at*;generalize t.getD 0 []=r0 at*;simp -dsimp -implicitDefEqProofs only [go_sem,g0];((with_reducible and_intros);all_goals try (omega));have hb1:∀o:Option lI,o.toList.length<=1:=fun o=>by cases o<;>simp
 refine aj.up [1,2,3,9] [41,45,57,58,66,67] [29] r0.length (fun i=>True) (fun i=>[(11,eI ((r0.length-i:Nat):Int)),(10,.ref 29 0 0 (MA ls gs r0.length i).toList.length)]) (fun i=>[(29,.row 0 ⟨1,false⟩ (MA ls gs r0.length i).isNone ((MA ls gs r0.length i).toList.map aQ))]) trivial ?_ rfl (fun i hi _=> ?_) (fun _=> ?_)
 . simp -dsimp -implicitDefEqProofs only [go_sem,MA,Dj,GF,bu,eP]
 . have XE:decide (((r0.length-i:Nat):Int)>0)=true:=dT (by omega);have Tf:((r0.length-i:Nat):Int)-1=((r0.length-(i+1):Nat):Int):=by omega
   have hd1:r0.length-(i+1)<=1000:=by omega
   rw [MA];generalize r0.length-(i+1)=d1 at*;generalize r0.length-i=d at*;generalize hW:MA ls gs r0.length i=o at*;rcases o with _|k0
   . rw [Option.none_or];simp -dsimp -implicitDefEqProofs only [pz,cG,cH,bh,↓reduceIte,bK];simp -dsimp -implicitDefEqProofs only [go_sem,XE,Dj,GF,bu,eP];have Ub:=fun j k=>Mz ls gs d j k;have Uc:=fun j h=>My ls gs d j h;have fR:pN ls (gs.take gs.length) d=pN ls gs d:=by rw [bd]
     have h0:pN ls [] d=none:=rfl;refine aj.up [1,2,3,9,11] [41,45,57,58,66,67] [29] gs.length (fun _=>True) (fun j=>[(12,eI j),(10,.ref 29 0 0 (pN ls (gs.take j) d).toList.length)]) (fun j=>[(29,.row 0 ⟨1,false⟩ (pN ls (gs.take j) d).isNone ((pN ls (gs.take j) d).toList.map aQ))]) trivial ?_ rfl (fun j hj _=> ?_) (fun _=> ?_)
     . simp -dsimp -implicitDefEqProofs only [go_sem,h0,Dj,GF,bu,eP]
     . have gj:=get_some hj;have lj:=aE hj;have Ud:=hdn _ (uq9 hj);have hln:=hl gs[j];rcases hf:pN ls (gs.take j) d with _|k1
       . rw [Uc j hj hf];clear Ub Uc;generalize gs[j]=g at*;rw [←hln];generalize FV m t ab g=D at*;have e3:decide ((0:Int)<1)=true:=rfl;by_cases hD:D.length=d
         . rw [if_pos hD];have e4:((dn ls g:Int)==(d:Int))=true:=by rw [←hln,hD];simp
           simp -dsimp -implicitDefEqProofs only [pz,cG,cH,bh,↓reduceIte,bK];simp -dsimp -implicitDefEqProofs only [go_sem,lj,e3,Dj,GF,bu,eP];refine aj.draw mixed rfl ?_;simp -dsimp -implicitDefEqProofs only [go_sem,gj];((with_reducible and_intros);all_goals try (omega));(refine ak (Ud) ?_;try simp -dsimp -implicitDefEqProofs only [go_sem, *]);refine ⟨by exact rfl,?_⟩;simp -dsimp -implicitDefEqProofs only [go_sem,Dl,GG,bu,dB,eP,c7,Nat.zero_add];((with_reducible and_intros);all_goals try (omega));exact .inr ⟨⟨by omega,by omega⟩,by rw [Int.natCast_add];rfl⟩
         rw [if_neg hD];have e4:((dn ls g:Int)==(d:Int))=false:=by rw [←hln];simp;omega
         simp -dsimp -implicitDefEqProofs only [pz,cG,cH,bh,↓reduceIte,bK];simp -dsimp -implicitDefEqProofs only [go_sem,lj,e3,Dj,GF,bu,eP];refine aj.draw mixed rfl ?_;simp -dsimp -implicitDefEqProofs only [go_sem,gj];((with_reducible and_intros);all_goals try (omega));(refine ak (Ud) ?_;try simp -dsimp -implicitDefEqProofs only [go_sem, *]);refine ⟨by exact rfl,?_⟩;simp -dsimp -implicitDefEqProofs only [go_sem,Dj,GF,bu,eP];((with_reducible and_intros);all_goals try first|(refine ⟨?_,?_⟩<;>omega)|exact rfl)
       have hm1:=Ub j k1 hf;have e3:decide (((1:Nat):Int)<1)=false:=rfl;simp -dsimp -implicitDefEqProofs only [pz,cG,cH,bh,↓reduceIte,bK];simp -dsimp -implicitDefEqProofs only [go_sem,lj,e3,hm1,Tf,Dl,GG,bu,dB,eP,c7,Nat.zero_add];(all_goals try ((refine ⟨?_,?_⟩<;>omega)))
     simp -dsimp -implicitDefEqProofs only [pz,cG,cH,bh,↓reduceIte,bK];simp -dsimp -implicitDefEqProofs only [go_sem,aA,Tf];(all_goals try ((refine ⟨?_,?_⟩<;>omega)))
   rw [Option.some_or];simp -dsimp -implicitDefEqProofs only [pz,cG,cH,bh,↓reduceIte,bK];simp -dsimp -implicitDefEqProofs only [go_sem,XE,Dl,GG,bu,dB,eP,c7,Nat.zero_add];refine aj.up [1,2,3,9,11] [41,45,57,58,66,67] [] 0 (fun _=>True) (fun j=>[(12,eI j),(10,.ref 29 0 0 1)]) (fun _=>[]) trivial ?_ rfl (fun j hj _=>absurd hj (gW _)) (fun _=> ?_)
   . simp -dsimp -implicitDefEqProofs only [go_sem]
   have e3:decide (((1:Nat):Int)<1)=false:=rfl;cases hb0:decide ((0:Int)<(gs.length:Int)) with
   |true=>
    simp -dsimp -implicitDefEqProofs only [pz,cG,cH,bh,↓reduceIte,bK];simp -dsimp -implicitDefEqProofs only [go_sem,hb0,e3,Tf,Dl,GG,bu,dB,eP,c7,Nat.zero_add];(all_goals try ((refine ⟨?_,?_⟩<;>omega)))
   |false=>
    simp -dsimp -implicitDefEqProofs only [pz,cG,cH,bh,↓reduceIte,bK];simp -dsimp -implicitDefEqProofs only [go_sem,hb0,Tf,Dl,GG,bu,dB,eP,c7,Nat.zero_add];(all_goals try ((refine ⟨?_,?_⟩<;>omega)))
 have e0:decide (((r0.length-r0.length:Nat):Int)>0)=false:=by rw [Nat.sub_self];rfl
 generalize MA ls gs r0.length r0.length=o at*;simp -dsimp -implicitDefEqProofs only [pz,cG,cH,bh,↓reduceIte,bK];simp -dsimp -implicitDefEqProofs only [go_sem,e0]
theorem P5 (ks:lL) (h:ks.length<=1048576):nQ pG 272 [aR ks] ⟨1,false⟩ (ks.map aQ):=by
 refine nQ.dK 8 [.tmp 2] func272 (hv:= ?_);simp -dsimp -implicitDefEqProofs only [go_sem];intro c hc;rcases c with _|_
 . rcases ks with _|⟨k,ks⟩
   . simp -dsimp -implicitDefEqProofs only [go_sem,eP,bu];exact .inr ⟨5,1,rfl,.inr ⟨rfl,rfl⟩⟩
   simp -dsimp -implicitDefEqProofs only [go_sem,c7,dB];exact ⟨by simp at h;omega,.inr ⟨5,1,by simp,.inl rfl⟩⟩
 have e:=hc rfl;simp -dsimp -implicitDefEqProofs only [go_sem,e];exact .inl ⟨rfl,rfl⟩
theorem P6 (xs:lI) (x:Int):has xs x=true↔x∈xs:=by
 unfold has;rw [Bool.not_eq_true',List.all_eq_false];constructor
 . rintro ⟨y,hy,h⟩;have:y=x:=by simpa using h
   exact this▸hy
 intro h;exact ⟨x,h,by simp⟩
def nE (l:lL) (key c:lI):Bool:=(bO c.length).all fun i=>(c.getD i 0==key.getD i 0)||has (l.getD i []) (c.getD i 0)
theorem BW (m:aK) (K:lL) {n i:Nat} (h:i<n):(kc m K n).getD i []=jB m K i:=by rw [uq7];simp [kc,h]
theorem F4 (m:aK) (K:lL) (i:Nat) (d:Int) (h:0<=d/\d<m.ao):has (jB m K i) d=K.any fun k=>k.getD i 0==d:=by
 obtain ⟨j,rfl⟩:∃j:Nat,d=(j:Int):=⟨d.toNat,by omega⟩;have hj:j<m.ao.toNat:=by omega
 have e:has (jB m K i) (j:Int)=true↔jX K i j=true:=by
  rw [P6];constructor
  . intro hm;obtain ⟨q,_,e,hp⟩:=r6 hm;have:j=q:=by omega
    subst this;exact hp
  intro hp;exact qD hj hp
 exact Bool.eq_iff_iff.2 e
theorem II (m:aK) (K:lL) (key c:lI) (n:Nat) (hc:c.length<=n) (hd:∀y∈c,0<=y/\y<m.ao):dU (kc m (K++[key]) n) c=nE (kc m K n) key c:=by
 unfold dU nE;refine Bool.eq_iff_iff.2 ?_;simp only [uq4,List.mem_range];refine forall_congr' fun i=>imp_congr_right fun hi=> ?_;have hci:c.getD i 0∈c:=by rw [uq7,uq8 hi];exact uq9 hi
 have hb:=hd _ hci;rw [BW m _ (by omega),BW m _ (by omega),F4 m _ i _ hb,F4 m _ i _ hb,List.any_append];have e:([key].any fun k=>k.getD i 0==c.getD i 0)=(c.getD i 0==key.getD i 0):=by simp only [List.any_cons,List.any_nil,Bool.or_false];exact Bool.eq_iff_iff.2 ⟨fun h=>by simp at h ⊢;exact h.symm,fun h=>by simp at h ⊢;exact h.symm⟩
 rw [e,Bool.or_comm]
theorem F5 (t ab:lL) (key:lI) (k:Nat):∀i,i<=ab.length->jn t (ab++[key]) k i=jn t ab k i
 |0,_=>rfl
 |i+1,h=>by
  rw [gE,gE,F5 t ab key k i (by omega)];have:(ab++[key]).getD i []=ab.getD i []:=by rw [uq7,List.getElem?_append_left (by omega),←uq7]
  rw [this]
theorem BX (m:aK) (t ab:lL) (key:lI) (k:Nat):bN m t (ab++[key]) k=if ((t.getD ab.length []).getD k 0==1)=true then kc m (jn t ab k ab.length++[key]) m.af.toNat else bN m t ab k:=by
 unfold bN;rw [cK,List.length_singleton,gE,F5 t ab key k _ (fH _)];have:(ab++[key]).getD ab.length []=key:=by simp [uq7]
 rw [this];split<;>rfl
def yK (m:aK) (t ab:lL) (i k:Nat):Bool:=((t.getD i []).getD k 0==0)&&dU (bN m t ab k) (ab.getD i [])
theorem F6 (m:aK) (t ab:lL) (i:Nat):∀n,nW m t ab i n=[]↔∀k,k<n->yK m t ab i k=false
 |0=>⟨fun _ k h=>absurd h (gW _),fun _=>rfl⟩
 |n+1=>by
  rw [pB];have ih:=F6 m t ab i n;constructor
  . intro h k hk;split at h
    . simp at h
    rename_i hb;by_cases e:k=n
    . subst e;simpa [yK] using hb
    exact ih.1 h k (by omega)
  intro h;have hb:yK m t ab i n=false:=h n (by omega);unfold yK at hb;rw [hb,if_neg (by simp)];exact ih.2 fun k hk=>h k (by omega)
theorem BY (m:aK) (t ab:lL):∀n,jP m t ab n=[]↔∀i,i<n->∀k,k<(t.getD 0 []).length->yK m t ab i k=false
 |0=>⟨fun _ k h=>absurd h (gW _),fun _=>rfl⟩
 |n+1=>by
  rw [nt,List.append_eq_nil_iff,BY m t ab n,F6];constructor
  . rintro ⟨h1,h2⟩ i hi k hk;by_cases e:i=n
    . subst e;exact h2 k hk
    exact h1 i (by omega) k hk
  intro h;exact ⟨fun i hi=>h i (by omega),h n (by omega)⟩
theorem F7 (m:aK) (t ab:lL):lJ m t ab=true↔∀i,i<ab.length->∀k,k<(t.getD 0 []).length->yK m t ab i k=false:=by
 rw [←BY];unfold lJ gN;rw [beq_iff_eq];constructor
 . intro h;exact List.eq_nil_of_length_eq_zero (by omega)
 intro h;rw [h];rfl
def P7 (m:aK) (t ab:lL) (key:lI) (k:Nat):Bool:=((t.getD ab.length []).getD k 0==0)&&dU (bN m t ab k) key
def P8 (m:aK) (t ab:lL) (key:lI) (k i:Nat):Bool:=(((t.getD ab.length []).getD k 0==1)&&((t.getD i []).getD k 0==0))&&nE (bN m t ab k) key (ab.getD i [])
def nF (m:aK) (t ab:lL) (key:lI):Bool:=(bO (t.getD 0 []).length).all fun k=> !P7 m t ab key k&&(bO ab.length).all fun i=> !P8 m t ab key k i
theorem yL (m:aK) (t ab:lL) (key:lI) (ho:lJ m t ab=true) (hc:∀x∈ab,(x.length:Int)=m.af/\∀y∈x,0<=y/\y<m.ao):lJ m t (ab++[key])=nF m t ab key:=by
 have ho:=(F7 m t ab).1 ho;refine Bool.eq_iff_iff.2 ?_;rw [F7];unfold nF;simp only [uq4,List.mem_range,uq0,Bool.not_eq_true'];have hlen:(ab++[key]).length=ab.length+1:=by simp
 have j7:(ab++[key]).getD ab.length []=key:=by simp [uq7]
 have MT:∀i,i<ab.length->(ab++[key]).getD i []=ab.getD i []:=fun i hi=>by rw [uq7,List.getElem?_append_left hi,←uq7]
 have e1:∀k,yK m t (ab++[key]) ab.length k=P7 m t ab key k:=by
  intro k;unfold yK P7;rw [j7,BX];by_cases hz:((t.getD ab.length []).getD k 0==0)=true
  . have:((t.getD ab.length []).getD k 0==1)=false:=by
     have:=beq_iff_eq.1 hz;rw [this];rfl
    rw [this,if_neg (by simp)]
  have hz:((t.getD ab.length []).getD k 0==0)=false:=by simpa using hz
  rw [hz,uq1,uq1]
 have e2:∀i,i<ab.length->∀k,k<(t.getD 0 []).length->yK m t (ab++[key]) i k=P8 m t ab key k i:=by
  intro i hi k hk;have hold:=ho i hi k hk;unfold yK at hold;unfold yK P8;rw [MT i hi,BX];have hci:ab.getD i []∈ab:=by rw [uq7,uq8 hi];exact uq9 hi
  obtain ⟨hl,hd⟩:=hc _ hci;by_cases h1:((t.getD ab.length []).getD k 0==1)=true
  . rw [if_pos h1,h1,uq3,II m _ key _ _ (by omega) hd];rfl
  have h1':((t.getD ab.length []).getD k 0==1)=false:=by simpa using h1
  rw [if_neg h1,h1',uq1,uq1];exact hold
 constructor
 . intro h k hk;refine ⟨by rw [←e1];exact h _ (by omega) k hk,fun i hi=>by rw [←e2 i hi k hk];exact h i (by omega) k hk⟩
 intro h i hi k hk;by_cases e:i=ab.length
 . subst e;rw [e1];exact (h k hk).1
 rw [e2 i (by omega) k hk];exact (h k hk).2 i (by omega)
theorem fC (t:lL) (h:t.length<=1000) (h2:∀x∈t,0<x.length/\x.length<=1048576):Fn pG 115 [aR t] true (· =aR t):=by
 refine Fn.au 20 [.tmp 2] func115 (hv:= ?_);simp -dsimp -implicitDefEqProofs only [go_sem];refine aj.Y9 [7,8] [15,16,17] [6] t.length (fun _=>True) (fun i=>[(9,eI i),(3,.ref 6 0 0 i)]) (fun i=>[(6,.row 0 ⟨1,false⟩ true ((t.take i).map aQ))]) trivial ?_ rfl (fun i hi _=> ?_) (fun _=> ?_)
 . refine .here ?_;simp -dsimp -implicitDefEqProofs only [go_sem]
 . have gi:=get_some hi;have li:=aE hi;have hx:=h2 _ (uq9 hi);have ho:=xX t[i] hx.2;have e2:(t.take (i+1)).map aQ=(t.take i).map aQ++[aQ t[i]]:=by rw [du hi,cj];rfl
   have hln:(t.take i).length=i:=by simp;omega
   rw [e2];clear e2;generalize t.take i=F at*;generalize t[i]=x at*;have tF:(F.map aQ).take i=F.map aQ:=aP (by simp;omega);simp -dsimp -implicitDefEqProofs only [pz,cG,cH,bh,↓reduceIte,bK];refine aj.Va rfl ?_;simp -dsimp -implicitDefEqProofs only [go_sem,li];refine aj.Va rfl ?_;simp -dsimp -implicitDefEqProofs only [go_sem];refine aj.XV ?_;refine aj.Vb ?_;refine aj.Va rfl ?_;simp -dsimp -implicitDefEqProofs only [go_sem,gi];((with_reducible and_intros);all_goals try (omega));refine aj.cut 3 rfl ?_;simp -dsimp -implicitDefEqProofs only [aO,cS,uq5,uq6];simp -dsimp -implicitDefEqProofs only [go_sem];refine aa ho ?_;simp -dsimp -implicitDefEqProofs only [go_sem];refine ng.known 15 16000 0 x.length ⟨1,false⟩ _ rfl (by decide) rfl (by simp) hx.1 (by decide) fun u=> ?_;simp -dsimp -implicitDefEqProofs only [go_sem,tF];((with_reducible and_intros);all_goals try (omega));refine aj.vc rfl ?_;simp -dsimp -implicitDefEqProofs only [go_sem];((with_reducible and_intros);all_goals try ((refine ⟨?_,?_⟩<;>omega)));refine xL.back 6 1 i 16000 0 _ _ _ u (by decide) rfl (by simp [hln]) rfl (.here ?_);rw [show (F.map aQ++[AV.val u]).set i (.arr ⟨1,false⟩ (x.map eI))=F.map aQ++[aQ x] by rw [List.set_append_right _ _ (by simp;omega)];simp [hln]];simp -dsimp -implicitDefEqProofs only [go_sem];(all_goals try (exact rfl))
 refine aj.vc rfl ?_;rw [bd];simp -dsimp -implicitDefEqProofs only [pz,cG,cH,bh,↓reduceIte,bK];simp -dsimp -implicitDefEqProofs only [go_sem,aA];all_goals first|(simp;done)|skip
theorem F8 {t ab:lL} {k r:Nat} (h1:((t.getD r []).getD k 0==1)=true):∀n,r<n->ab.getD r []∈jn t ab k n
 |0,h=>by omega
 |n+1,h=>by
  rw [gE];by_cases e:r=n
  . subst e;rw [if_pos h1];simp
  have:=F8 h1 (ab:=ab) n (by omega);split
  . exact List.mem_append_left _ this
  exact this
theorem MB {xs:lI} {n:Int} (hp:xs.Pairwise (· < ·)) (hb:∀x∈xs,0<=x/\x<n):lE xs n=true:=by
 unfold lE;rw [uq4];intro i hi;have hi:=List.mem_range.1 hi;have h1:=hb _ (uq9 hi);have e:xs.getD i 0=xs[i]:=by simp [uq7,hi]
 simp only [eK,uq0,Bool.or_eq_true,decide_eq_true_eq,beq_iff_eq];rw [e];refine ⟨h1,?_⟩;by_cases h0:i=0
 . exact .inl h0
 have hi':i-1<xs.length:=by omega
 have e':xs.getD (i-1) 0=xs[i-1]:=by simp [uq7,hi']
 rw [e'];exact .inr (List.pairwise_iff_getElem.1 hp (i-1) i hi' hi (by omega))
theorem yM {m:aK} {t ab:lL} (hs:eO m t=true) (hc:dV m t ab=true) {k:Nat} (hk:k<(t.getD 0 []).length):fq m (bN m t ab k)=true:=by
 have ko:=lG hs;have ⟨⟨n1,n2⟩,n3,n4⟩:=aM ko;obtain ⟨c1,c2⟩:=dH hc;simp only [eO,uq0] at hs;have hd:=hs.2;unfold iz at hd;rw [uq4] at hd;have hd:=hd k (List.mem_range.2 hk);unfold eA at hd;obtain ⟨row,GH,hr1⟩:=List.any_eq_true.1 hd;obtain ⟨r,hr,rfl⟩:=List.getElem_of_mem GH;have hrt:t.getD r []=t[r]:=by simp [uq7,hr]
 have hin:=F8 (ab:=ab) (t:=t) (k:=k) (r:=r) (by rw [hrt];exact hr1) ab.length (by omega);have hrc:r<ab.length:=by omega
 have hcr:ab.getD r []=ab[r]:=by simp [uq7,hrc]
 rw [hcr] at hin;obtain ⟨k1,k2⟩:=gq (c2 _ (uq9 hrc));simp only [fq,uq0,beq_iff_eq,uq4];refine ⟨by rw [kP];omega,fun x hx=> ?_⟩;simp only [bN,kc,List.mem_map,List.mem_range] at hx;obtain ⟨i,hi,rfl⟩:=hx;simp only [cN,uq0,decide_eq_true_eq];have hil:i<ab[r].length:=by omega
 have hb:=k2 _ (uq9 hil);constructor
 . have hm:=qD (p:=jX (jn t ab k ab.length) i) (n:=m.ao.toNat) (j:=ab[r][i].toNat) (by omega) (by
    unfold jX;rw [List.any_eq_true];refine ⟨ab[r],hin,?_⟩;rw [beq_iff_eq,show ab[r].getD i 0=ab[r][i] by simp [uq7,hil]]
    omega)
   intro h0;have:jB m (jn t ab k ab.length) i=[]:=List.eq_nil_of_length_eq_zero h0;unfold jB at this;rw [this] at hm;cases hm
 refine MB (sa _ _) fun x hx=> ?_;obtain ⟨j,hj,rfl,_⟩:=r6 hx;omega
def j1 (p:lI):lU:=Lib.join (p.map itoa) [43]
def pO (ps:lL):lU:=Lib.join (ps.map j1) [32]
theorem MC {p:lI} {k:Nat} (hk:k<p.length):j1 (p.take (k+1))=if k=0 then itoa p[k] else j1 (p.take k)++([43]++itoa p[k]):=by
 rw [j1,du hk,cj,iH,qJ];by_cases hz:k=0
 . subst hz;simp
 rw [if_neg hz,if_neg]
 . rfl
 intro e2;have:=congrArg List.length e2;rw [dt,List.length_take,bu] at this;omega
theorem MD {ps:lL} {i:Nat} (hi:i<ps.length):pO (ps.take (i+1))=if i=0 then j1 ps[i] else pO (ps.take i)++([32]++j1 ps[i]):=by
 rw [pO,du hi,cj,iH,qJ];by_cases hz:i=0
 . subst hz;simp
 rw [if_neg hz,if_neg]
 . rfl
 intro e2;have:=congrArg List.length e2;rw [dt,List.length_take,bu] at this;omega
def F9 (ps:lL):Prop:=ps.length<=8/\∀p∈ps,p.length<=16/\∀x∈p,0<=x/\x<=9
theorem Ga {p:lI} (h:p.length<=16) (hx:∀x∈p,0<=x/\x<=9):(j1 p).length<=352:=by
 have h1:=te (p.map itoa) [43] 21 (by
  intro y hy;obtain ⟨x,hxm,rfl⟩:=List.mem_map.1 hy
  exact cO (by have:=hx x hxm;unfold km;omega))
 rw [dt] at h1;simp only [List.length_singleton] at h1;unfold j1;omega
theorem Gb {ps:lL} (h:F9 ps):(pO ps).length<=2824:=by
 have h1:=te (ps.map j1) [32] 352 (by
  intro y hy;obtain ⟨p,hp,rfl⟩:=List.mem_map.1 hy
  exact Ga (h.2 p hp).1 (h.2 p hp).2)
 rw [dt] at h1;simp only [List.length_singleton] at h1;have:=h.1;unfold pO;omega
theorem IJ {ps:lL} (h:F9 ps) (i:Nat):F9 (ps.take i):=⟨by have:=h.1;simp;omega,fun p hp=>h.2 p (cq hp)⟩
theorem JY {m:aK} {l:lL} (hm:aY m=true) (hl:fq m l=true) (h8:∀x∈l,x.length<=8):F9 (pins m l):=by have hn:=aM hm;simp only [fq,uq0,beq_iff_eq,uq4] at hl;refine ⟨by rw [pins,dt];omega,fun p hp=> ?_⟩;obtain ⟨s,hs,rfl⟩:=List.mem_map.1 hp;obtain ⟨h1,h2⟩:=Ij (hl.2 s hs);have:=h8 s hs;exact ⟨by rw [SN h1];omega,fun x hx=>by have:=h2 x hx;omega⟩
set_option maxHeartbeats 4000000 in
theorem Gc (m:aK) (l:lL) (hm:aY m=true) (hl:fq m l=true) (h8:∀x∈l,x.length<=8):Fn pG 119 [la m,r8 l] true (· = .aX [eS (pO (pins m l)),eI 0]):=by
 refine Fn.au 34 [.tmp 4,.tmp 5] func119 (hv:= ?_);have hll:l.length<=8:=by have hn:=aM hm;simp only [fq,uq0,beq_iff_eq] at hl;omega
 have hc:=Fs m [l] (by simp) (fun x hx=>by simp only [List.mem_singleton] at hx;subst hx;exact ⟨by omega,fun y hy=>by have:=h8 y hy;omega⟩);rw [Fq,CP,hm,hl] at hc;have hc:Fn pG 163 [la m,.arr ⟨1,true⟩ [r8 l]] true (· =eI 0):=hc;have hp:=PB m l hm hl (fun x hx=>by have:=h8 x hx;omega);have hok:=JY hm hl h8;have hj:=fun (i:Nat) (hi:i<(pins m l).length)=>tf [43] (by simp) (pins m l)[i] (by have:=(hok.2 _ (uq9 hi)).1;omega) (fun x hx=>by have:=(hok.2 _ (uq9 hi)).2 x hx;unfold km;omega);generalize pins m l=ps at*;have hps:=hok.1;have e:((0:Int) != 0)=false:=rfl;simp -dsimp -implicitDefEqProofs only [go_sem];refine aa hc ?_;simp -dsimp -implicitDefEqProofs only [go_sem,e];refine av hp (by simp [ax,an,aq,aG]) ?_;simp -dsimp -implicitDefEqProofs only [go_sem];refine aj.up [20,21] [28,29,30] [17] ps.length (fun _=>True) (fun i=>[(7,.ref 17 0 0 i),(22,eI i)]) (fun i=>[(17,.row 0 ⟨1,false⟩ true (((ps.take i).map j1).map eS))]) trivial ?_ rfl (fun i hi _=> ?_) (fun _=> ?_)
 . simp -dsimp -implicitDefEqProofs only [go_sem]
 . have gi:=get_some hi;have hji:=hj i hi;have htk:(ps.take (i+1)).map j1=(ps.take i).map j1++[j1 ps[i]]:=by rw [du hi,cj];rfl
   have hln:((ps.take i).map j1).length=i:=by simp;omega
   rw [htk,cj,iH];clear htk hj;generalize (ps.take i).map j1=K at*;rw [show Lib.join (ps[i].map itoa) [43]=j1 ps[i] from rfl] at hji;generalize ps[i]=p at*;have tK:aW i (K.map eS)=K.map eS:=aP (by simp [hln]);simp -dsimp -implicitDefEqProofs only [pz,cG,cH,bh,↓reduceIte,bK];simp -dsimp -implicitDefEqProofs only [go_sem,aE hi,gi];((with_reducible and_intros);all_goals try (omega));refine aa hji ?_;simp -dsimp -implicitDefEqProofs only [go_sem,tK];((with_reducible and_intros);all_goals try first|omega|(refine ⟨?_,?_⟩<;>omega)|exact rfl)
 have hpl:=Gb hok;rw [bd];have e2:aW ps.length (bf eS (bf j1 ps))=bf eS (bf j1 ps):=aP (by simp);have hJ:=Pw (ps.map j1) [32] (by simp;omega) (by unfold pO at hpl;omega);simp -dsimp -implicitDefEqProofs only [pz,cG,cH,bh,↓reduceIte,bK];simp -dsimp -implicitDefEqProofs only [go_sem,aA,e2];refine aa hJ ?_;simp -dsimp -implicitDefEqProofs only [go_sem];all_goals (first|exact rfl|skip)
set_option maxHeartbeats 4000000 in
theorem ME (ps:lL) (h:F9 ps):Fn pG 147 [aR ps] true (· =eS (pO ps)):=by
 refine Fn.au 40 [.tmp 2] func147 (hv:= ?_);have hps:=h.1;simp -dsimp -implicitDefEqProofs only [go_sem];refine aj.up [0] [8,21,37] [] ps.length (fun _=>True) (fun i=>[(3,eS (pO (ps.take i))),(4,eI i)]) (fun _=>[]) trivial ?_ rfl (fun i hi _=> ?_) (fun _=> ?_)
 . simp -dsimp -implicitDefEqProofs only [go_sem];all_goals first|rfl|skip
 . have gi:=get_some hi;have hsl:=Gb (IJ h i);obtain ⟨hp1,hp2⟩:=h.2 _ (uq9 hi);obtain ⟨base,qg,hbl⟩:∃base:lU,base=(if i=0 then [] else pO (ps.take i)++[32])/\base.length<=2825:=⟨_,rfl,by split<;>simp;omega⟩;have zx:pO (ps.take (i+1))=base++j1 ps[i]:=by
    rw [MD hi,qg];split
    . rfl
    rw [List.append_assoc]
   rw [zx];clear zx;have inner:∀(p:lI),p.length<=16->(∀x∈p,0<=x/\x<=9)->∀k,k<=p.length->(j1 (p.take k)).length<=352:=fun p q1 q2 k hk=>Ga (by simp;omega) fun x hx=>q2 x (cq hx);have hin:=inner _ hp1 hp2;clear inner;obtain ⟨o0,ho0⟩:∃o0:lU,pO (ps.take i)=o0:=⟨_,rfl⟩;rw [ho0] at qg hsl ⊢;generalize ps[i]=p at*;simp -dsimp -implicitDefEqProofs only [pz,↓reduceIte,bK];rcases Nat.eq_zero_or_pos i with h0|h0
   case' inl=>
    have d0:decide ((i:Int)>0)=false:=dF (by omega);have hb0:o0=base:=by rw [qg,if_pos h0,←ho0,h0];rfl
    rw [hb0];simp -dsimp -implicitDefEqProofs only [go_sem,aE hi,d0]
   case' inr=>
    have d0:decide ((i:Int)>0)=true:=dT (by omega);have hb0:o0++[32]=base:=by rw [qg,if_neg (by omega)]
    simp -dsimp -implicitDefEqProofs only [go_sem,aE hi,d0,hb0]
   all_goals
    ((with_reducible and_intros);all_goals try (omega));refine aj.up [0,4] [21,37] [] p.length (fun _=>True) (fun k=>[(3,eS (base++j1 (p.take k))),(5,eI k)]) (fun _=>[]) trivial ?_ rfl (fun k hk _=> ?_) (fun _=> ?_)
    . simp -dsimp -implicitDefEqProofs only [go_sem];all_goals first|(simp [j1,join_nil];done)|skip
    . have gk:=get_some hk;have hd:=fg p[k] (by have:=hp2 _ (uq9 hk);omega);have hil:=cO (v:=p[k]) (by have:=hp2 _ (uq9 hk);unfold km;omega);have hk1:=hin k (by omega);rw [MC hk];rcases Nat.eq_zero_or_pos k with g0|g0
      . have q0:decide ((k:Int)>0)=false:=dF (by omega);have ez:j1 (p.take k)=[]:=by rw [g0];rfl
        rw [if_pos g0,ez,List.append_nil];generalize p[k]=x at*;simp -dsimp -implicitDefEqProofs only [pz,↓reduceIte,bK];simp -dsimp -implicitDefEqProofs only [go_sem,aE hk,gi,gk,q0];((with_reducible and_intros);all_goals try (omega));refine aa hd ?_;simp -dsimp -implicitDefEqProofs only [go_sem];((with_reducible and_intros);all_goals try first|omega|(refine ⟨?_,?_⟩<;>omega)|exact rfl)
      have q0:decide ((k:Int)>0)=true:=dT (by omega);rw [if_neg (by omega)];generalize j1 (p.take k)=J at*;generalize p[k]=x at*;simp -dsimp -implicitDefEqProofs only [pz,↓reduceIte,bK];simp -dsimp -implicitDefEqProofs only [go_sem,aE hk,gi,gk,q0];((with_reducible and_intros);all_goals try (omega));refine aa hd ?_;simp -dsimp -implicitDefEqProofs only [go_sem];((with_reducible and_intros);all_goals try first|omega|(refine ⟨?_,?_⟩<;>omega)|exact rfl);all_goals first|(simp;done)|(first|omega|(refine ⟨?_,?_⟩<;>omega)|exact rfl|(simp;done)|skip)
    simp -dsimp -implicitDefEqProofs only [pz,↓reduceIte,bK];simp -dsimp -implicitDefEqProofs only [go_sem,gi,aA,bd];((with_reducible and_intros);all_goals try first|omega|(refine ⟨?_,?_⟩<;>omega)|exact rfl)
 simp -dsimp -implicitDefEqProofs only [pz,↓reduceIte,bK];simp -dsimp -implicitDefEqProofs only [go_sem,aA,bd]
theorem Gd (m:aK) (l:lL) (hm:aY m=true) (hl:fq m l=true) (h8:∀x∈l,x.length<=8):Fn pG 102 [la m,r8 l] true (· = .aX [eS (pO (pins m l)),eI 0]):=by
 refine Fn.au 14 [.tmp 4,.tmp 5] func102 (hv:= ?_);have hll:l.length<=8:=by have hn:=aM hm;simp only [fq,uq0,beq_iff_eq] at hl;omega
 have hc:=LX m l (by omega) (fun y hy=>by have:=h8 y hy;omega);rw [CP,hm,hl] at hc;have hp:=Mb m l hm hl (fun x hx=>by have:=h8 x hx;omega);have ht:=ME (pins m l) (JY hm hl h8);generalize pins m l=ps at*;simp -dsimp -implicitDefEqProofs only [go_sem];refine aa hc ?_;simp -dsimp -implicitDefEqProofs only [go_sem];refine av hp (by simp [ax,an,aq,aG]) ?_;simp -dsimp -implicitDefEqProofs only [go_sem];refine aa ht ?_;simp -dsimp -implicitDefEqProofs only [go_sem]
theorem MF (m m2:Mem) (x:AV) (sh:Sh) (xs:lA) (i j:Nat):vm m m2 x (.bq sh xs i j)=jI m m2 x (.bq sh xs i j):=by cases x<;>rfl
theorem IK (m m2:Mem) (sh:Sh) (xs ys:lA) (i j:Nat):jI m m2 (.bq sh xs i j) (.bq sh ys i j)=(xs=ys):=by simp [jI]
attribute [go_sem ↓] MF IK
theorem uZ (l:lL) (key c:lI) (h0:c.length<=l.length) (hk:c.length<=key.length) (h1:l.length<=1048576) (h2:∀x∈l,x.length<=1048576):Fn pG 281 [r8 l,aQ key,aQ c] true (· =eB (nE l key c)):=by
 refine Fn.au 33 [.tmp 6] func281 (hv:= ?_);simp -dsimp -implicitDefEqProofs only [go_sem];refine aj.up [1,3,9,10] [29] [] c.length (fun i=>((bO i).all fun i=>(c.getD i 0==key.getD i 0)||has (l.getD i []) (c.getD i 0))=true) (fun i=>[(11,eI i)]) (fun _=>[]) rfl ?_ rfl (fun i hi hI=> ?_) (fun hI=> ?_)
 . simp -dsimp -implicitDefEqProofs only [go_sem]
 . have gi:=get_some (show i<l.length by omega);have gk:=get_some (show i<key.length by omega);have gc:=get_some hi;have li:=aE hi;have hp:((c.getD i 0==key.getD i 0)||has (l.getD i []) (c.getD i 0))=((c[i]==key[i])||has l[i] c[i]):=by simp [uq7,hi,show i<l.length by omega,show i<key.length by omega]
   have hq:=qy l[i] c[i] (h2 _ (uq9 _));have no:((c[i]==key[i])||has l[i] c[i])=false->nE l key c=false:=fun h=>bX hi (by rw [hp];exact h);have yes:((c[i]==key[i])||has l[i] c[i])=true->((bO (i+1)).all fun i=>(c.getD i 0==key.getD i 0)||has (l.getD i []) (c.getD i 0))=true:=fun h=>by rw [bm,hI,hp,h];rfl
   clear hp hI;generalize l[i]=x at*;generalize c[i]=z at*;generalize key[i]=y at*;rcases he:(z==y) with _|_
   . have e1:(z != y)=true:=by simp only [bne,he];rfl
     rw [he,Bool.false_or] at no yes;simp -dsimp -implicitDefEqProofs only [pz,cG,cH,bh,↓reduceIte,bK];simp -dsimp -implicitDefEqProofs only [go_sem,gi,gc,gk,li,e1];((with_reducible and_intros);all_goals try (omega));refine aa hq ?_;rcases hb:has x z with _|_
     . rw [no hb];simp -dsimp -implicitDefEqProofs only [go_sem]
     simp -dsimp -implicitDefEqProofs only [go_sem];refine ⟨⟨by omega,by omega⟩,?_,rfl⟩;rw [←List.range_succ];exact yes hb
   have e1:(z != y)=false:=by simp only [bne,he];rfl
   rw [he,Bool.true_or] at yes;simp -dsimp -implicitDefEqProofs only [pz,cG,cH,bh,↓reduceIte,bK];simp -dsimp -implicitDefEqProofs only [go_sem,gc,gk,li,e1];((with_reducible and_intros);all_goals try first|omega|(refine ⟨?_,?_⟩<;>omega)|exact rfl);rw [←List.range_succ];exact yes rfl
 simp -dsimp -implicitDefEqProofs only [pz,cG,cH,bh,↓reduceIte,bK];simp -dsimp -implicitDefEqProofs only [go_sem,aA];rw [show nE l key c=true from hI]
def nY (m:aK) (t ab:lL):lA:=[.bq ⟨1,false⟩ [pM (ay m t ab (t.getD 0 []).length)] 0 0,.bq ⟨1,false⟩ [aQ (t.getD ab.length [])] 0 0,.bq ⟨1,false⟩ [aR ab] 0 0,.bq ⟨6,true⟩ [jM m t] 0 0]
theorem P9 (m:aK) (t ab:lL) (key:lI) (hm:aY m=true) (h0:t.length<=1000) (h1:ab.length<t.length) (hk:∀i (hi:i<t.length),t[i].length=(t.getD 0 []).length) (hd:(t.getD 0 []).length<=1000) (hc:∀x∈ab,(x.length:Int)=m.af)
 (V3:(key.length:Int)=m.af):Fn pG 280 (aQ key::nY m t ab) true (· =eB (nF m t ab key)):=by
 have ⟨⟨n1,n2⟩,n3,n4⟩:=aM hm;unfold nY;refine Fn.au 59 [.tmp 6] func280 (hv:= ?_);have hll:=dM m t ab (t.getD 0 []).length;have GH:(t.getD ab.length []).length=(t.getD 0 []).length:=by rw [uq7,uq8 h1];exact hk _ h1
 unfold nF;have hgl:=fun k (h:k<(t.getD 0 []).length)=>jO m t ab h;have hL:=fun k=>kP m t ab k;have hLs:=fun k=>iB m t ab k;have hb1:∀k,P7 m t ab key k=(((t.getD ab.length []).getD k 0==0)&&dU (bN m t ab k) key):=fun k=>rfl;have hb2:∀k i,P8 m t ab key k i=((((t.getD ab.length []).getD k 0==1)&&((t.getD i []).getD k 0==0))&&nE (bN m t ab k) key (ab.getD i [])):=fun k i=>rfl;generalize P7 m t ab key=b1 at*;generalize P8 m t ab key=b2 at*;generalize bN m t ab=LA at*;generalize ay m t ab (t.getD 0 []).length=ls at*;generalize t.getD ab.length []=row at*;generalize hdo:(t.getD 0 []).length=D at*;simp -dsimp -implicitDefEqProofs only [go_sem];refine aj.up [0,2,3,4,11,12] [8,26,29,55] [] D (fun k=>((bO k).all fun k=> !b1 k&&(bO ab.length).all fun i=> !b2 k i)=true) (fun k=>[(13,eI k)]) (fun _=>[]) rfl ?_ rfl (fun k hkD hI=> ?_) (fun hI=> ?_)
 . simp -dsimp -implicitDefEqProofs only [go_sem]
 . have hkr:k<row.length:=by omega
   have gl:=hgl k hkD;have gr:=get_some hkr;have lk:decide ((k:Int)<(ls.length:Int))=true:=dT (by omega);have hq:=CR (LA k) key (by have:=hL k;omega) (by have:=hL k;omega) (fun x hx=>by have:=hLs k x hx;omega);have hL1:=hL k;have XF:=hLs k;have e1:=hb1 k;have e2:=hb2 k;have no:(!b1 k&&(bO ab.length).all fun i=> !b2 k i)=false->((bO D).all fun k=> !b1 k&&(bO ab.length).all fun i=> !b2 k i)=false:=fun h=>bX hkD h;have yes:(!b1 k&&(bO ab.length).all fun i=> !b2 k i)=true->((bO (k+1)).all fun k=> !b1 k&&(bO ab.length).all fun i=> !b2 k i)=true:=fun h=>by rw [bm,hI,h];rfl
   rw [show row.getD k 0=row[k] by simp [uq7,hkr]] at e1 e2;clear hI hb1 hb2 hgl hL hLs;generalize LA k=L at*;generalize row[k]=z at*;generalize ((bO D).all fun k=> !b1 k&&(bO ab.length).all fun i=> !b2 k i)=R at*;generalize ((bO (k+1)).all fun k=> !b1 k&&(bO ab.length).all fun i=> !b2 k i)=R1 at*;generalize b1 k=c1 at*;generalize b2 k=c2 at*;have inner:∀Q0:Prop,True:=fun _=>trivial;rcases hz0:(z==0) with _|_
   . rw [hz0,uq1] at e1;subst e1;simp -dsimp -implicitDefEqProofs only [pz,↓reduceIte,bK];simp -dsimp -implicitDefEqProofs only [go_sem,gl,gr,lk,hz0];((with_reducible and_intros);all_goals try (omega));refine aj.up [0,2,3,4,7,8,11,12,13,28,29] [55] [] ab.length (fun i=>((bO i).all fun i=> !c2 i)=true) (fun i=>[(30,eI i)]) (fun _=>[]) rfl ?_ rfl (fun i hi hJ=> ?_) (fun hJ=> ?_)
     . simp -dsimp -implicitDefEqProofs only [go_sem]
     . have hit:i<t.length:=by omega
       have hki:k<t[i].length:=by rw [hk i hit];exact hkD
       have git:=get_some hit;have gik:=get_some hki;have gci:=get_some hi;have lci:=aE hi;have e3:=e2 i;rw [show (t.getD i []).getD k 0=t[i][k] by simp [uq7,hit,hki],show ab.getD i []=ab[i] by simp [uq7,hi]] at e3;have hcl:=hc _ (uq9 hi);have hq2:=uZ L key ab[i] (by omega) (by omega) (by omega) (fun x hx=>by have:=XF x hx;omega);have yes2:c2 i=false->((bO (i+1)).all fun i=> !c2 i)=true:=fun h=>by rw [bm,hJ,h];rfl
       have no2:c2 i=true->R=false:=fun h=>no (by rw [Bool.not_false,uq3];exact bX hi (by rw [h];rfl));generalize ((bO (i+1)).all fun i=> !c2 i)=R2 at*;generalize c2 i=c3 at*;clear hJ;generalize ab[i]=cc at*;generalize t[i]=ti at*;generalize ti[k]=y at*;rcases hz1:(z==1) with _|_
       . rw [hz1,uq1,uq1] at e3;simp -dsimp -implicitDefEqProofs only [pz,cG,cH,bh,↓reduceIte,bK];simp -dsimp -implicitDefEqProofs only [go_sem,gci,lci,gr,hz1];((with_reducible and_intros);all_goals try first|omega|(refine ⟨?_,?_⟩<;>omega)|exact rfl);all_goals first|exact yes2 e3|skip
       rw [hz1,uq3] at e3;rcases hy:(y==0) with _|_
       . rw [hy,uq1] at e3;simp -dsimp -implicitDefEqProofs only [pz,cG,cH,bh,↓reduceIte,bK];simp -dsimp -implicitDefEqProofs only [go_sem,gci,lci,gr,hz1,git,gik,hy];((with_reducible and_intros);all_goals try first|omega|(refine ⟨?_,?_⟩<;>omega)|exact rfl);all_goals first|exact yes2 e3|skip
       rw [hy,uq3] at e3;simp -dsimp -implicitDefEqProofs only [pz,cG,cH,bh,↓reduceIte,bK];simp -dsimp -implicitDefEqProofs only [go_sem,gci,lci,gr,hz1,git,gik,hy];((with_reducible and_intros);all_goals try (omega));refine aa hq2 ?_;rcases hw:nE L key cc with _|_
       . rw [hw] at e3;simp -dsimp -implicitDefEqProofs only [go_sem];((with_reducible and_intros);all_goals try first|(refine ⟨?_,?_⟩<;>omega)|exact rfl);all_goals first|exact yes2 e3|skip
       rw [hw] at e3;rw [no2 e3];simp -dsimp -implicitDefEqProofs only [go_sem]
     simp -dsimp -implicitDefEqProofs only [pz,cG,cH,bh,↓reduceIte,bK];simp -dsimp -implicitDefEqProofs only [go_sem,aA];((with_reducible and_intros);all_goals try first|(refine ⟨?_,?_⟩<;>omega)|exact rfl);all_goals first|exact yes (by rw [Bool.not_false,uq3];exact hJ)|skip
   rw [hz0,uq3] at e1;rcases hop:dU L key with _|_
   . rw [hop] at e1 hq;subst e1;simp -dsimp -implicitDefEqProofs only [pz,↓reduceIte,bK];simp -dsimp -implicitDefEqProofs only [go_sem,gl,gr,lk,hz0];((with_reducible and_intros);all_goals try (omega));refine aa hq ?_;simp -dsimp -implicitDefEqProofs only [go_sem];refine aj.up [0,2,3,4,7,8,11,12,13,28,29] [55] [] ab.length (fun i=>((bO i).all fun i=> !c2 i)=true) (fun i=>[(30,eI i)]) (fun _=>[]) rfl ?_ rfl (fun i hi hJ=> ?_) (fun hJ=> ?_)
     . simp -dsimp -implicitDefEqProofs only [go_sem]
     . have hit:i<t.length:=by omega
       have hki:k<t[i].length:=by rw [hk i hit];exact hkD
       have git:=get_some hit;have gik:=get_some hki;have gci:=get_some hi;have lci:=aE hi;have e3:=e2 i;rw [show (t.getD i []).getD k 0=t[i][k] by simp [uq7,hit,hki],show ab.getD i []=ab[i] by simp [uq7,hi]] at e3;have hcl:=hc _ (uq9 hi);have hq2:=uZ L key ab[i] (by omega) (by omega) (by omega) (fun x hx=>by have:=XF x hx;omega);have yes2:c2 i=false->((bO (i+1)).all fun i=> !c2 i)=true:=fun h=>by rw [bm,hJ,h];rfl
       have no2:c2 i=true->R=false:=fun h=>no (by rw [Bool.not_false,uq3];exact bX hi (by rw [h];rfl));generalize ((bO (i+1)).all fun i=> !c2 i)=R2 at*;generalize c2 i=c3 at*;clear hJ;generalize ab[i]=cc at*;generalize t[i]=ti at*;generalize ti[k]=y at*;rcases hz1:(z==1) with _|_
       . rw [hz1,uq1,uq1] at e3;simp -dsimp -implicitDefEqProofs only [pz,cG,cH,bh,↓reduceIte,bK];simp -dsimp -implicitDefEqProofs only [go_sem,gci,lci,gr,hz1];((with_reducible and_intros);all_goals try first|omega|(refine ⟨?_,?_⟩<;>omega)|exact rfl);all_goals first|exact yes2 e3|skip
       rw [hz1,uq3] at e3;rcases hy:(y==0) with _|_
       . rw [hy,uq1] at e3;simp -dsimp -implicitDefEqProofs only [pz,cG,cH,bh,↓reduceIte,bK];simp -dsimp -implicitDefEqProofs only [go_sem,gci,lci,gr,hz1,git,gik,hy];((with_reducible and_intros);all_goals try first|omega|(refine ⟨?_,?_⟩<;>omega)|exact rfl);all_goals first|exact yes2 e3|skip
       rw [hy,uq3] at e3;simp -dsimp -implicitDefEqProofs only [pz,cG,cH,bh,↓reduceIte,bK];simp -dsimp -implicitDefEqProofs only [go_sem,gci,lci,gr,hz1,git,gik,hy];((with_reducible and_intros);all_goals try (omega));refine aa hq2 ?_;rcases hw:nE L key cc with _|_
       . rw [hw] at e3;simp -dsimp -implicitDefEqProofs only [go_sem];((with_reducible and_intros);all_goals try first|(refine ⟨?_,?_⟩<;>omega)|exact rfl);all_goals first|exact yes2 e3|skip
       rw [hw] at e3;rw [no2 e3];simp -dsimp -implicitDefEqProofs only [go_sem]
     simp -dsimp -implicitDefEqProofs only [pz,cG,cH,bh,↓reduceIte,bK];simp -dsimp -implicitDefEqProofs only [go_sem,aA];((with_reducible and_intros);all_goals try first|(refine ⟨?_,?_⟩<;>omega)|exact rfl);all_goals first|exact yes (by rw [Bool.not_false,uq3];exact hJ)|skip
   rw [hop] at e1 hq;subst e1;rw [no rfl];simp -dsimp -implicitDefEqProofs only [pz,↓reduceIte,bK];simp -dsimp -implicitDefEqProofs only [go_sem,gl,gr,lk,hz0];((with_reducible and_intros);all_goals try (omega));refine aa hq ?_;simp -dsimp -implicitDefEqProofs only [go_sem]
 have lD:decide ((D:Int)<(ls.length:Int))=false:=by rw [hll];simp
 simp -dsimp -implicitDefEqProofs only [pz,↓reduceIte,bK];simp -dsimp -implicitDefEqProofs only [go_sem,lD];all_goals first|(rw [hI])|skip
theorem Ge (m:aK) (t ab:lL) (hm:aY m=true) (h0:t.length<=1000) (h1:ab.length<t.length) (hk:∀i (hi:i<t.length),t[i].length=(t.getD 0 []).length) (hd:(t.getD 0 []).length<=1000)
 (hc:∀x∈ab,(x.length:Int)=m.af/\∀y∈x,0<=y/\y<m.ao):Fn pG 270 [jM m t,aR ab] false (fun r=>r= .cm 280 (nY m t ab)):=by
 refine Fn.O3 17 [.tmp 4] func270 (hv:= ?_);have hp:=gp m t ab hm h0 (by omega) (by omega) hk hd hc;have gr:=get_some h1;have er:t[ab.length]=t.getD ab.length []:=by rw [uq7,gr];rfl
 rw [er] at gr;unfold nY;generalize ay m t ab (t.getD 0 []).length=ls at*;generalize t.getD ab.length []=row at*;simp -dsimp -implicitDefEqProofs only [go_sem];refine aj.draw mixed rfl ?_;simp -dsimp -implicitDefEqProofs only [go_sem];refine aH hp (by simp [ax,an,aq,aG]) ?_;simp -dsimp -implicitDefEqProofs only [go_sem,gr];((with_reducible and_intros);all_goals try first|omega|exact rfl);refine ⟨_,rfl,⟨_,rfl,rfl,fun x hx=> ?_,by simp,rfl⟩,⟨_,rfl,rfl,fun x hx=> ?_,by simp,rfl⟩,⟨_,rfl,rfl,fun x hx=> ?_,by simp,rfl⟩,⟨_,rfl,rfl,fun x hx=> ?_,by simp,rfl⟩,trivial⟩
 . rw [List.mem_singleton] at hx;subst hx;exact ⟨rfl,rfl⟩
 . rw [List.mem_singleton] at hx;subst hx;exact ⟨rfl,rfl⟩
 . rw [List.mem_singleton] at hx;subst hx;exact ⟨rfl,rfl⟩
 simp only [List.mem_cons,List.not_mem_nil,or_false] at hx;rcases hx with rfl|rfl|rfl|rfl|rfl|rfl<;>exact ⟨rfl,rfl⟩
theorem MG (n:Int):Fn pG 253 [eI n] true (· =eB (bB n 0 4000)):=by refine Fn.au 5 [.tmp 2] func253 (hv:= ?_);have hw:=kO n 0 4000;simp -dsimp -implicitDefEqProofs only [go_sem];refine aa hw ?_;simp -dsimp -implicitDefEqProofs only [go_sem]
theorem C4 (m:aK) (t ab:lL) (hm:aY m=true) (h0:t.length<=1000) (h1:ab.length<=t.length) (h2:0<t.length) (hk:∀i (hi:i<t.length),t[i].length=(t.getD 0 []).length) (hd:(t.getD 0 []).length<=1000)
 (hc:∀x∈ab,(x.length:Int)=m.af/\∀y∈x,0<=y/\y<m.ao):Fn pG 254 [jM m t,aR ab] true (· =eB (lJ m t ab)):=by
 refine Fn.au 10 [.tmp 4] func254 (hv:= ?_);have hp:=nu m t ab hm h0 h1 h2 hk hd hc;unfold lJ;generalize gN m t ab=F at*;simp -dsimp -implicitDefEqProofs only [go_sem];refine av hp (by simp [ax,an,aq,aG]) ?_;simp -dsimp -implicitDefEqProofs only [go_sem]
theorem Gf (m:aK) (t:lL) (h:t.length<=1048576) (h2:∀x∈t,x.length<=1048576):Fn pG 252 [jM m t,.val (.slice none 0 0)] true (· =eI (if eO m t=true then 0 else 1)):=by
 refine Fn.au 21 [.tmp 4] func252 (hv:= ?_);have hs:=uM m t h h2;rcases hb:eO m t with _|_
 . rw [hb] at hs;rw [if_neg (by simp)];simp -dsimp -implicitDefEqProofs only [go_sem];refine aa hs ?_;simp -dsimp -implicitDefEqProofs only [go_sem]
 rw [hb] at hs;rw [if_pos rfl];have hm:=lG hb;have ha:=(sY m [] hm (by simp) (by simp)).Px (args':=[la m,.val (.slice none 0 0)]) (.cons (.refl _) (.cons (.nil _) .nil));rw [show (([]:lL).all (fB m))=true from rfl] at ha;have e:decide ((0:Int)>(t.length:Int))=false:=dF (by omega);simp -dsimp -implicitDefEqProofs only [go_sem];refine aa hs ?_;simp -dsimp -implicitDefEqProofs only [go_sem,e];refine aa ha ?_;simp -dsimp -implicitDefEqProofs only [go_sem]
theorem zl (m:aK) (t:lL) (lim:Int) (h:t.length<=1048576) (h2:∀x∈t,x.length<=1048576):Fn pG 210 [jM m t,.val (.slice none 0 0),eI lim] true (· =eI (kU m t lim)):=by
 refine Fn.au 21 [.tmp 6] func210 (hv:= ?_);have hp:=Gf m t h h2;have hl:=MG lim;unfold kU;rcases hb:eO m t with _|_
 . rw [hb,if_neg (by simp)] at hp;rw [if_neg (by simp)];have e:((1:Int) != 0)=true:=rfl;simp -dsimp -implicitDefEqProofs only [go_sem];refine aa hp ?_;simp -dsimp -implicitDefEqProofs only [go_sem,e]
 rw [hb,if_pos rfl] at hp;rw [if_pos rfl];have e:((0:Int) != 0)=false:=rfl;rcases hi:bB lim 0 4000 with _|_
 . rw [hi] at hl;rw [if_neg (by simp)];simp -dsimp -implicitDefEqProofs only [go_sem];refine aa hp ?_;simp -dsimp -implicitDefEqProofs only [go_sem,e];refine aa hl ?_;simp -dsimp -implicitDefEqProofs only [go_sem]
 rw [hi] at hl;rw [if_pos rfl];have hF:Mw m t []:=Vw hb (by simp) (fun x hx=>by cases hx);have ho:=(C4 m t [] hF.pF hF.tl hF.le hF.t0 hF.row hF.wd (fun x hx=>by cases hx)).Px (args':=[jM m t,.val (.slice none 0 0)]) (.cons (.refl _) (.cons (.nil _) .nil));rw [show lJ m t []=true from rfl] at ho;simp -dsimp -implicitDefEqProofs only [go_sem];refine aa hp ?_;simp -dsimp -implicitDefEqProofs only [go_sem,e];refine aa hl ?_;simp -dsimp -implicitDefEqProofs only [go_sem];refine aa ho ?_;simp -dsimp -implicitDefEqProofs only [go_sem]
def gF (m:aK) (t:lL) (lim:Nat) (part:lL) (rec:lL->SS->Bool × SS) (st:SS × Bool) (k:lI):(SS × Bool) × Bool:=
 if ((st.1.tries:Int)==(lim:Int))=true then ((⟨st.1.tries,true,st.1.found⟩,false),false)
 else if nF m t part k=true then (((rec (part++[k]) ⟨st.1.tries+1,st.1.stop,st.1.found⟩).2,(rec (part++[k]) ⟨st.1.tries+1,st.1.stop,st.1.found⟩).1),(rec (part++[k]) ⟨st.1.tries+1,st.1.stop,st.1.found⟩).1)
 else ((⟨st.1.tries+1,st.1.stop,st.1.found⟩,st.2),st.2)
def fZ (m:aK) (t:lL) (lim:Nat):Nat->lL->SS->Bool × SS
 |0,part,z=>(false,⟨z.tries,z.stop,z.found++[part]⟩)
 |d+1,part,z=>((bC (gF m t lim part (fZ m t lim d)) (z,true) (bx m)).1.2,(bC (gF m t lim part (fZ m t lim d)) (z,true) (bx m)).1.1)
theorem Gg (m:aK) (t:lL) (lim d:Nat) (part:lL) (z:SS):fZ m t lim (d+1) part z=((bC (gF m t lim part (fZ m t lim d)) (z,true) (bx m)).1.2,(bC (gF m t lim part (fZ m t lim d)) (z,true) (bx m)).1.1):=rfl
structure Xc (lim:Nat) (z:SS) (r:Bool × SS):Prop where
 tr:r.2.tries<=lim
 same:r.1=true->r.2.found=z.found
 le:r.2.found.length<=z.found.length+1
theorem T2 {m:aK} {t:lL} {lim:Nat} {part:lL} {rec:lL->SS->Bool × SS} (hr:∀p z,z.tries<=lim->Xc lim z (rec p z)) (st:SS × Bool) (k:lI) (h:st.1.tries<=lim):
 (gF m t lim part rec st k).1.1.tries<=lim/\((gF m t lim part rec st k).1.2=true->(gF m t lim part rec st k).1.1.found=st.1.found)/\(gF m t lim part rec st k).1.1.found.length<=st.1.found.length+1/\(gF m t lim part rec st k).2=(gF m t lim part rec st k).1.2:=by
 unfold gF;split
 . exact ⟨h,fun _=>rfl,Nat.le_succ _,rfl⟩
 rename_i hne;have hne:st.1.tries≠lim:=fun e=>hne (by rw [e];simp);split
 . have:=hr (part++[k]) ⟨st.1.tries+1,st.1.stop,st.1.found⟩ (by simp only;omega);exact ⟨this.tr,this.same,this.le,rfl⟩
 exact ⟨by simp only;omega,fun _=>rfl,Nat.le_succ _,rfl⟩
theorem JZ {m:aK} {t:lL} {lim:Nat} {part:lL} {rec:lL->SS->Bool × SS} (hr:∀p z,z.tries<=lim->Xc lim z (rec p z)):∀(ks:lL) (z:SS),z.tries<=lim→
 Xc lim z ((bC (gF m t lim part rec) (z,true) ks).1.2,(bC (gF m t lim part rec) (z,true) ks).1.1)
 | [],z,h=>⟨h,fun _=>rfl,Nat.le_succ _⟩
 |k::ks,z,h=>by
  obtain ⟨g1,g2,g3,g4⟩:=T2 (m:=m) (t:=t) (part:=part) hr (z,true) k h;rw [bC];split
  . rename_i hb;rw [g4] at hb;have e:(gF m t lim part rec (z,true) k).1=((gF m t lim part rec (z,true) k).1.1,true):=Prod.ext rfl hb;have ih:=JZ hr ks (gF m t lim part rec (z,true) k).1.1 g1 (m:=m) (t:=t) (part:=part);rw [e];have hs:=g2 hb;exact ⟨ih.tr,fun h=>(ih.same h).trans hs,by have:=ih.le;rw [hs] at this;exact this⟩
  exact ⟨g1,g2,g3⟩
theorem C5 (m:aK) (t:lL) (lim:Nat):∀(d:Nat) (part:lL) (z:SS),z.tries<=lim->Xc lim z (fZ m t lim d part z)
 |0,part,z,h=>⟨h,fun h=>(by cases h),by simp [fZ]⟩
 |d+1,part,z,h=>JZ (fun p z h=>C5 m t lim d p z h) (bx m) z h
theorem yN {m:aK} {t:lL} {lim:Nat} {part:lL} {recG recF:lL->SS->Bool × SS} (hst:∀k∈bx m,lJ m t (part++[k])=nF m t part k)
 (hok:∀p z,z.tries<=lim->Xc lim z (recG p z)) (kZ:∀k∈bx m,nF m t part k=true->∀z,z.tries<=lim->z.found=[]->recF (part++[k]) z=(!(recG (part++[k]) z).1,(recG (part++[k]) z).2)):∀(ks:lL) (z:SS),(∀k∈ks,k∈bx m)->z.tries<=lim->z.found=[]→
 Dt m t lim part recF ks z=(!(bC (gF m t lim part recG) (z,true) ks).1.2,(bC (gF m t lim part recG) (z,true) ks).1.1)
 | [],z,_,_,_=>rfl
 |k::ks,z,hk,h,hz=>by
  have hka:=hk k (List.mem_cons_self ..);have hks:∀x∈ks,x∈bx m:=fun x hx=>hk x (List.mem_cons_of_mem _ hx);rw [Dt,bC];by_cases e1:((z.tries:Int)==(lim:Int))=true
  . have eg:gF m t lim part recG (z,true) k=((⟨z.tries,true,z.found⟩,false),false):=by unfold gF;rw [if_pos e1]
    rw [if_pos e1,eg,if_neg (by simp)];rfl
  have hne:z.tries≠lim:=fun e=>e1 (by rw [e];simp);rw [if_neg e1,hst k hka];by_cases e2:nF m t part k=true
  . have hr:=kZ k hka e2 ⟨z.tries+1,z.stop,z.found⟩ (by simp only;omega) hz;have hg:=hok (part++[k]) ⟨z.tries+1,z.stop,z.found⟩ (by simp only;omega);have eg:gF m t lim part recG (z,true) k=(((recG (part++[k]) ⟨z.tries+1,z.stop,z.found⟩).2,(recG (part++[k]) ⟨z.tries+1,z.stop,z.found⟩).1),(recG (part++[k]) ⟨z.tries+1,z.stop,z.found⟩).1):=by
     unfold gF;rw [if_neg e1,if_pos e2]
    rw [if_pos e2,eg,hr];generalize recG (part++[k]) ⟨z.tries+1,z.stop,z.found⟩=w at*;obtain ⟨b,z1⟩:=w;cases b with
    |true=>
     have hf:z1.found=[]:=(hg.same rfl).trans hz;have:=yN hst hok kZ ks z1 hks hg.tr hf;simpa using this
    |false=>simp
  have eg:gF m t lim part recG (z,true) k=((⟨z.tries+1,z.stop,z.found⟩,true),true):=by unfold gF;rw [if_neg e1,if_neg e2]
  rw [if_neg e2,eg,if_pos rfl];exact yN hst hok kZ ks _ hks (by simp only;omega) hz
theorem BZ {m:aK} {t:lL} {lim:Nat} (hm:aY m=true):∀(d:Nat) (part:lL) (z:SS),(∀k∈part,k∈bx m)->lJ m t part=true->z.tries<=lim->z.found=[]→
 dN m t lim d part z=(!(fZ m t lim d part z).1,(fZ m t lim d part z).2)
 |0,part,z,_,_,_,hz=>by simp [dN,fZ,hz]
 |d+1,part,z,hp,ho,h,hz=>by
  have hn:=aM hm;have hpk:∀x∈part,(x.length:Int)=m.af/\∀y∈x,0<=y/\y<m.ao:=fun x hx=>by have:=kg (m:=m) (by omega) (hp x hx);exact ⟨this.len,this.el⟩
  rw [dN,Gg];refine yN (fun k _=>yL m t part k ho hpk) (fun p z h=>C5 m t lim d p z h) (fun k hk hs z hz1 hz2=> ?_) (bx m) z (fun _ h=>h) h hz;refine BZ hm d (part++[k]) z (fun x hx=> ?_) (by rw [yL m t part k ho hpk];exact hs) hz1 hz2;rcases List.mem_append.1 hx with hx|hx
  . exact hp x hx
  rw [List.mem_singleton] at hx;subst hx;exact hk
theorem Vz (m:aK) (tb:lL) (lim:Nat) (part:lL) (z:SS) (ht:tb.length<=1000) (hp:part.length=tb.length) (hp0:0<part.length) (hpx:∀x∈part,0<x.length/\x.length<=1048576) (hf:z.found.length<=20000000):
 fK pG 256 [(1900000017,.box 0 [eI m.af,eI m.ao,eI m.step,eI m.same,eI m.least,aR tb,eI (lim:Int),eI (z.tries:Int),eB z.stop,.cm 255 [.ptr 1900000010 0 0 0,.ptr 1900000006 0 0 0]]),(1900000010,.box 0 [.ref 1900000012 z.found.length 0 z.found.length]),(1900000012,.row z.found.length ⟨1,false⟩ true (z.found.map aR)),(1900000006,.box 0 [eI 1])] [.ptr 1900000017 0 0 0,aR part,.val (.slice none 0 0)] (fun r m'=>r=eB false/\m'=[(1900000017,.box 0 [eI m.af,eI m.ao,eI m.step,eI m.same,eI m.least,aR tb,eI (lim:Int),eI ((⟨z.tries,z.stop,z.found++[part]⟩:SS).tries:Int),eB (⟨z.tries,z.stop,z.found++[part]⟩:SS).stop,.cm 255 [.ptr 1900000010 0 0 0,.ptr 1900000006 0 0 0]]),(1900000010,.box 0 [.ref 1900000012 (⟨z.tries,z.stop,z.found++[part]⟩:SS).found.length 0 (⟨z.tries,z.stop,z.found++[part]⟩:SS).found.length]),(1900000012,.row (⟨z.tries,z.stop,z.found++[part]⟩:SS).found.length ⟨1,false⟩ true ((⟨z.tries,z.stop,z.found++[part]⟩:SS).found.map aR)),(1900000006,.box 0 [eI 1])]):=by
 refine fK.dK 39 [.tmp 6] func256 (hv:= ?_);have hcp:=fC part (by omega) hpx;obtain ⟨tries,stop,found⟩:=z;simp only at hf ⊢;have e:((part.length:Int)==(tb.length:Int))=true:=by rw [hp];simp
 have eD:decide (((found.length+1:Nat):Int)<1)=false:=dF (by omega);have eM:(found++[part]).map aR=found.map aR++[aR part]:=by simp
 have eL:(found++[part]).length=found.length+1:=by simp
 have eSet:∀u,(found.map aR++[AV.val u]).set found.length (.arr ⟨1,false⟩ (part.map aQ))=found.map aR++[aR part]:=fun u=>by rw [List.set_append_right _ _ (by simp)];simp
 simp -dsimp -implicitDefEqProofs only [go_sem];refine aj.draw mixed rfl ?_;simp -dsimp -implicitDefEqProofs only [go_sem,e];refine ⟨by exact rfl,?_⟩;refine aj.k9 5 mixed rfl ?_;(simp -dsimp -implicitDefEqProofs only [aO,cS,uq5,uq6]);simp -dsimp -implicitDefEqProofs only [go_sem];refine ⟨by exact rfl,?_⟩;refine ca 430000 14 [.tmp 4] func255 rfl rfl rfl rfl rfl (by exact oT rfl) ?_;simp -dsimp -implicitDefEqProofs only [go_sem];refine aj.U9 ?_;refine aj.any mixed rfl ?_;refine cu [0,1] rfl ⟨?_,?_,trivial⟩
 . (simp -dsimp -implicitDefEqProofs only [aO,cS,uq6]);simp -dsimp -implicitDefEqProofs only [go_sem];(refine ng.go ?_;refine cu [1] rfl ⟨?_,trivial⟩;(simp -dsimp -implicitDefEqProofs only [aO,cS,uq5,uq6]);simp -dsimp -implicitDefEqProofs only [go_sem]);(refine ng.go ?_;refine cu [2] rfl ⟨?_,trivial⟩;(simp -dsimp -implicitDefEqProofs only [aO,cS,uq5,uq6]);simp -dsimp -implicitDefEqProofs only [go_sem]);refine aa hcp ?_;simp -dsimp -implicitDefEqProofs only [go_sem];refine ng.known 7 8000 0 part.length ⟨1,false⟩ _ rfl (by decide) rfl (by simp) hp0 (by decide) fun u=> ?_;refine cu [3] rfl ⟨?_,trivial⟩;(simp -dsimp -implicitDefEqProofs only [aO,cS,uq5,uq6]);simp -dsimp -implicitDefEqProofs only [go_sem];(refine ng.go ?_;refine cu [4] rfl ⟨?_,trivial⟩;(simp -dsimp -implicitDefEqProofs only [aO,cS,uq5,uq6]);simp -dsimp -implicitDefEqProofs only [go_sem]);((with_reducible and_intros);all_goals try (omega));(refine ng.go ?_;refine cu [5] rfl ⟨?_,trivial⟩;(simp -dsimp -implicitDefEqProofs only [aO,cS,uq5,uq6]);simp -dsimp -implicitDefEqProofs only [go_sem]);((refine ng.go ?_);refine rX ?_;refine ng.go ?_;refine hk.back 1900000012 (found.length+1) found.length 8000 0 _ _ _ u (by decide) rfl (by simp) rfl ?_;(rw [eSet u]);refine hk.go ?_;simp -dsimp -implicitDefEqProofs only [go_sem,eD];refine ⟨_,rfl,aL ?_ ?_⟩;(simp -dsimp -implicitDefEqProofs only [go_sem,eM]);(simp -dsimp -implicitDefEqProofs only [go_sem];simp [an,aq,ck]))
 (simp -dsimp -implicitDefEqProofs only [aO,cS,uq5,uq6]);simp -dsimp -implicitDefEqProofs only [go_sem];refine ng.go ?_;refine cu [0,2] rfl ⟨?_,?_,trivial⟩
 . (simp -dsimp -implicitDefEqProofs only [aO,cS,uq6]);simp -dsimp -implicitDefEqProofs only [go_sem];(refine ng.go ?_;refine cu [2] rfl ⟨?_,trivial⟩;(simp -dsimp -implicitDefEqProofs only [aO,cS,uq5,uq6]);simp -dsimp -implicitDefEqProofs only [go_sem]);refine aa hcp ?_;simp -dsimp -implicitDefEqProofs only [go_sem];refine ng.known 7 8000 0 part.length ⟨1,false⟩ _ rfl (by decide) rfl (by simp) hp0 (by decide) fun u=> ?_;refine cu [3] rfl ⟨?_,trivial⟩;(simp -dsimp -implicitDefEqProofs only [aO,cS,uq5,uq6]);simp -dsimp -implicitDefEqProofs only [go_sem];(refine ng.go ?_;refine cu [4] rfl ⟨?_,trivial⟩;(simp -dsimp -implicitDefEqProofs only [aO,cS,uq5,uq6]);simp -dsimp -implicitDefEqProofs only [go_sem]);((with_reducible and_intros);all_goals try (omega));(refine ng.go ?_;refine cu [5] rfl ⟨?_,trivial⟩;(simp -dsimp -implicitDefEqProofs only [aO,cS,uq5,uq6]);simp -dsimp -implicitDefEqProofs only [go_sem]);((refine ng.go ?_);refine rX ?_;refine ng.go ?_;refine hk.back 1900000012 (found.length+1) found.length 8000 0 _ _ _ u (by decide) rfl (by simp) rfl ?_;(rw [eSet u]);refine hk.go ?_;simp -dsimp -implicitDefEqProofs only [go_sem,eD];refine ⟨_,rfl,aL ?_ ?_⟩;(simp -dsimp -implicitDefEqProofs only [go_sem,eM]);(simp -dsimp -implicitDefEqProofs only [go_sem];simp [an,aq,ck]))
 (simp -dsimp -implicitDefEqProofs only [aO,cS,uq5,uq6]);simp -dsimp -implicitDefEqProofs only [go_sem];refine aa hcp ?_;simp -dsimp -implicitDefEqProofs only [go_sem];refine ng.known 7 8000 0 part.length ⟨1,false⟩ _ rfl (by decide) rfl (by simp) hp0 (by decide) fun u=> ?_;refine cu [0,3] rfl ⟨?_,?_,trivial⟩
 . (simp -dsimp -implicitDefEqProofs only [aO,cS,uq6]);simp -dsimp -implicitDefEqProofs only [go_sem];(refine ng.go ?_;refine cu [3] rfl ⟨?_,trivial⟩;(simp -dsimp -implicitDefEqProofs only [aO,cS,uq5,uq6]);simp -dsimp -implicitDefEqProofs only [go_sem]);(refine ng.go ?_;refine cu [4] rfl ⟨?_,trivial⟩;(simp -dsimp -implicitDefEqProofs only [aO,cS,uq5,uq6]);simp -dsimp -implicitDefEqProofs only [go_sem]);((with_reducible and_intros);all_goals try (omega));(refine ng.go ?_;refine cu [5] rfl ⟨?_,trivial⟩;(simp -dsimp -implicitDefEqProofs only [aO,cS,uq5,uq6]);simp -dsimp -implicitDefEqProofs only [go_sem]);((refine ng.go ?_);refine rX ?_;refine ng.go ?_;refine hk.back 1900000012 (found.length+1) found.length 8000 0 _ _ _ u (by decide) rfl (by simp) rfl ?_;(rw [eSet u]);refine hk.go ?_;simp -dsimp -implicitDefEqProofs only [go_sem,eD];refine ⟨_,rfl,aL ?_ ?_⟩;(simp -dsimp -implicitDefEqProofs only [go_sem,eM]);(simp -dsimp -implicitDefEqProofs only [go_sem];simp [an,aq,ck]))
 (simp -dsimp -implicitDefEqProofs only [aO,cS,uq5,uq6]);simp -dsimp -implicitDefEqProofs only [go_sem];(refine ng.go ?_;refine cu [0] rfl ⟨?_,trivial⟩;(simp -dsimp -implicitDefEqProofs only [aO,cS,uq6]);simp -dsimp -implicitDefEqProofs only [go_sem]);(refine ng.go ?_;refine cu [4] rfl ⟨?_,trivial⟩;(simp -dsimp -implicitDefEqProofs only [aO,cS,uq5,uq6]);simp -dsimp -implicitDefEqProofs only [go_sem]);((with_reducible and_intros);all_goals try (omega));(refine ng.go ?_;refine cu [5] rfl ⟨?_,trivial⟩;(simp -dsimp -implicitDefEqProofs only [aO,cS,uq5,uq6]);simp -dsimp -implicitDefEqProofs only [go_sem]);((refine ng.go ?_);refine rX ?_;refine ng.go ?_;refine hk.back 1900000012 (found.length+1) found.length 8000 0 _ _ _ u (by decide) rfl (by simp) rfl ?_;(rw [eSet u]);refine hk.go ?_;simp -dsimp -implicitDefEqProofs only [go_sem,eD];refine ⟨_,rfl,aL ?_ ?_⟩;(simp -dsimp -implicitDefEqProofs only [go_sem,eM]);(simp -dsimp -implicitDefEqProofs only [go_sem];simp [an,aq,ck]))
end Go.Vc
