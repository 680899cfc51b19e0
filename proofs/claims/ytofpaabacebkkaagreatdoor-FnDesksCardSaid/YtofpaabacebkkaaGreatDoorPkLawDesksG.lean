import Derived.Test.YtofpaabacebkkaaGreatDoorPkLawDesksF
open Go.Proofs.Tryz
open Go.Proofs.Tryz renaming prog → pG
set_option linter.unusedVariables false
set_option linter.unusedSimpArgs false
set_option linter.unnecessarySimpa false
set_option maxRecDepth 1000000
set_option maxHeartbeats 16000000
open Bool renaming and_eq_true->uq0
open Int renaming reduceBEq->uq1
open List renaming drop_succ_cons->uq2,drop_zero->uq3,getElem_mem->uq4,length_cons->uq5,length_map->uq6,length_nil->uq7,map->uq8,map_cons->uq9,map_nil->bk,mem_append->dL,mem_singleton->dE,take_length->cM,take_of_length_le->a_,take_succ_cons->ba,take_zero->bp
open Nat renaming reduceAdd->cE,reduceBEq->b7,reduceDiv->eR,reduceEqDiff->dh
namespace Go.Vc
open Go.Proofs
theorem VT (m:aJ)(tb:lL)(lim:Nat)(part:lL)(z:SS)(ht:tb.length<=1000)(hp:part.length=tb.length)(hp0:0<part.length)(hpx:∀x∈part,0<x.length/\x.length<=1048576)(hf:z.found.length<=20000000):
 fN pG 256 [(1900000017,.box 0 [eI m.ae,eI m.ak,eI m.step,eI m.same,eI m.least,aQ tb,eI (lim:Int),eI (z.tries:Int),eB z.stop,.cn 255 [.ptr 1900000010 0 0 0,.ptr 1900000006 0 0 0]]),(1900000010,.box 0 [.ref 1900000012 z.found.length 0 z.found.length]),(1900000012,.row z.found.length ⟨1,false⟩ true (z.found.map aQ)),(1900000006,.box 0 [eI 1])] [.ptr 1900000017 0 0 0,aQ part,.val (.slice none 0 0)] (λr m'=>r=eB false/\m'=[(1900000017,.box 0 [eI m.ae,eI m.ak,eI m.step,eI m.same,eI m.least,aQ tb,eI (lim:Int),eI ((⟨z.tries,z.stop,z.found++[part]⟩:SS).tries:Int),eB (⟨z.tries,z.stop,z.found++[part]⟩:SS).stop,.cn 255 [.ptr 1900000010 0 0 0,.ptr 1900000006 0 0 0]]),(1900000010,.box 0 [.ref 1900000012 (⟨z.tries,z.stop,z.found++[part]⟩:SS).found.length 0 (⟨z.tries,z.stop,z.found++[part]⟩:SS).found.length]),(1900000012,.row (⟨z.tries,z.stop,z.found++[part]⟩:SS).found.length ⟨1,false⟩ true ((⟨z.tries,z.stop,z.found++[part]⟩:SS).found.map aQ)),(1900000006,.box 0 [eI 1])]):=by
 refine fN.cT 39 [.tmp 6] func256 (hv:=?_);have hcp:=fE part (by omega) hpx;obtain ⟨tries,stop,found⟩:=z;simp only at hf ⊢;have e:((part.length:Int)==(tb.length:Int))=true:=by rw[hp];simp
 have eD:decide (((found.length+1:Nat):Int)<1)=false:=dF (by omega);have eM:(found++[part]).map aQ=found.map aQ++[aQ part]:=by simp
 have eL:(found++[part]).length=found.length+1:=by simp
 have eSet:∀u,(found.map aQ++[AV.val u]).set found.length (.arr ⟨1,false⟩ (part.map aM))=found.map aQ++[aQ part]:=λu=>by rw[List.set_append_right _ _ (by simp)];simp
 simp -dsimp -implicitDefEqProofs only[go_sem];refine aj.draw mixed rfl ?_;simp -dsimp -implicitDefEqProofs only[go_sem,e];refine ⟨by exact rfl,?_⟩;refine aj.lB 5 mixed rfl ?_;(simp -dsimp -implicitDefEqProofs only[ba,bp,uq2,uq3]);simp -dsimp -implicitDefEqProofs only[go_sem];refine ⟨by exact rfl,?_⟩;refine bJ 430000 14 [.tmp 4] func255 rfl rfl rfl rfl rfl (by exact oT rfl) ?_;simp -dsimp -implicitDefEqProofs only[go_sem];refine aj.Vu ?_;refine aj.any mixed rfl ?_;refine ct [0,1] rfl ⟨?_,?_,trivial⟩
 . (simp -dsimp -implicitDefEqProofs only[ba,bp,uq3]);simp -dsimp -implicitDefEqProofs only[go_sem];(refine nw.go ?_;refine ct [1] rfl ⟨?_,trivial⟩;(simp -dsimp -implicitDefEqProofs only[ba,bp,uq2,uq3]);simp -dsimp -implicitDefEqProofs only[go_sem]);(refine nw.go ?_;refine ct [2] rfl ⟨?_,trivial⟩;(simp -dsimp -implicitDefEqProofs only[ba,bp,uq2,uq3]);simp -dsimp -implicitDefEqProofs only[go_sem]);refine aa hcp ?_;simp -dsimp -implicitDefEqProofs only[go_sem];refine nw.known 7 8000 0 part.length ⟨1,false⟩ _ rfl (by decide) rfl (by simp) hp0 (by decide) λu=>?_;refine ct [3] rfl ⟨?_,trivial⟩;(simp -dsimp -implicitDefEqProofs only[ba,bp,uq2,uq3]);simp -dsimp -implicitDefEqProofs only[go_sem];(refine nw.go ?_;refine ct [4] rfl ⟨?_,trivial⟩;(simp -dsimp -implicitDefEqProofs only[ba,bp,uq2,uq3]);simp -dsimp -implicitDefEqProofs only[go_sem]);((with_reducible and_intros);all_goals try omega);(refine nw.go ?_;refine ct [5] rfl ⟨?_,trivial⟩;(simp -dsimp -implicitDefEqProofs only[ba,bp,uq2,uq3]);simp -dsimp -implicitDefEqProofs only[go_sem]);((refine nw.go ?_);refine sO ?_;refine nw.go ?_;refine hk.back 1900000012 (found.length+1) found.length 8000 0 _ _ _ u (by decide) rfl (by simp) rfl ?_;(rw[eSet u]);refine hk.go ?_;simp -dsimp -implicitDefEqProofs only[go_sem,eD];refine ⟨_,rfl,aO ?_ ?_⟩;(simp -dsimp -implicitDefEqProofs only[go_sem,eM]);(simp -dsimp -implicitDefEqProofs only[go_sem];simp[ao,aq,ck]))
 (simp -dsimp -implicitDefEqProofs only[ba,bp,uq2,uq3]);simp -dsimp -implicitDefEqProofs only[go_sem];refine nw.go ?_;refine ct [0,2] rfl ⟨?_,?_,trivial⟩
 . (simp -dsimp -implicitDefEqProofs only[ba,bp,uq3]);simp -dsimp -implicitDefEqProofs only[go_sem];(refine nw.go ?_;refine ct [2] rfl ⟨?_,trivial⟩;(simp -dsimp -implicitDefEqProofs only[ba,bp,uq2,uq3]);simp -dsimp -implicitDefEqProofs only[go_sem]);refine aa hcp ?_;simp -dsimp -implicitDefEqProofs only[go_sem];refine nw.known 7 8000 0 part.length ⟨1,false⟩ _ rfl (by decide) rfl (by simp) hp0 (by decide) λu=>?_;refine ct [3] rfl ⟨?_,trivial⟩;(simp -dsimp -implicitDefEqProofs only[ba,bp,uq2,uq3]);simp -dsimp -implicitDefEqProofs only[go_sem];(refine nw.go ?_;refine ct [4] rfl ⟨?_,trivial⟩;(simp -dsimp -implicitDefEqProofs only[ba,bp,uq2,uq3]);simp -dsimp -implicitDefEqProofs only[go_sem]);((with_reducible and_intros);all_goals try omega);(refine nw.go ?_;refine ct [5] rfl ⟨?_,trivial⟩;(simp -dsimp -implicitDefEqProofs only[ba,bp,uq2,uq3]);simp -dsimp -implicitDefEqProofs only[go_sem]);((refine nw.go ?_);refine sO ?_;refine nw.go ?_;refine hk.back 1900000012 (found.length+1) found.length 8000 0 _ _ _ u (by decide) rfl (by simp) rfl ?_;(rw[eSet u]);refine hk.go ?_;simp -dsimp -implicitDefEqProofs only[go_sem,eD];refine ⟨_,rfl,aO ?_ ?_⟩;(simp -dsimp -implicitDefEqProofs only[go_sem,eM]);(simp -dsimp -implicitDefEqProofs only[go_sem];simp[ao,aq,ck]))
 (simp -dsimp -implicitDefEqProofs only[ba,bp,uq2,uq3]);simp -dsimp -implicitDefEqProofs only[go_sem];refine aa hcp ?_;simp -dsimp -implicitDefEqProofs only[go_sem];refine nw.known 7 8000 0 part.length ⟨1,false⟩ _ rfl (by decide) rfl (by simp) hp0 (by decide) λu=>?_;refine ct [0,3] rfl ⟨?_,?_,trivial⟩
 . (simp -dsimp -implicitDefEqProofs only[ba,bp,uq3]);simp -dsimp -implicitDefEqProofs only[go_sem];(refine nw.go ?_;refine ct [3] rfl ⟨?_,trivial⟩;(simp -dsimp -implicitDefEqProofs only[ba,bp,uq2,uq3]);simp -dsimp -implicitDefEqProofs only[go_sem]);(refine nw.go ?_;refine ct [4] rfl ⟨?_,trivial⟩;(simp -dsimp -implicitDefEqProofs only[ba,bp,uq2,uq3]);simp -dsimp -implicitDefEqProofs only[go_sem]);((with_reducible and_intros);all_goals try omega);(refine nw.go ?_;refine ct [5] rfl ⟨?_,trivial⟩;(simp -dsimp -implicitDefEqProofs only[ba,bp,uq2,uq3]);simp -dsimp -implicitDefEqProofs only[go_sem]);((refine nw.go ?_);refine sO ?_;refine nw.go ?_;refine hk.back 1900000012 (found.length+1) found.length 8000 0 _ _ _ u (by decide) rfl (by simp) rfl ?_;(rw[eSet u]);refine hk.go ?_;simp -dsimp -implicitDefEqProofs only[go_sem,eD];refine ⟨_,rfl,aO ?_ ?_⟩;(simp -dsimp -implicitDefEqProofs only[go_sem,eM]);(simp -dsimp -implicitDefEqProofs only[go_sem];simp[ao,aq,ck]))
 (simp -dsimp -implicitDefEqProofs only[ba,bp,uq2,uq3]);simp -dsimp -implicitDefEqProofs only[go_sem];(refine nw.go ?_;refine ct [0] rfl ⟨?_,trivial⟩;(simp -dsimp -implicitDefEqProofs only[ba,bp,uq3]);simp -dsimp -implicitDefEqProofs only[go_sem]);(refine nw.go ?_;refine ct [4] rfl ⟨?_,trivial⟩;(simp -dsimp -implicitDefEqProofs only[ba,bp,uq2,uq3]);simp -dsimp -implicitDefEqProofs only[go_sem]);((with_reducible and_intros);all_goals try omega);(refine nw.go ?_;refine ct [5] rfl ⟨?_,trivial⟩;(simp -dsimp -implicitDefEqProofs only[ba,bp,uq2,uq3]);simp -dsimp -implicitDefEqProofs only[go_sem]);((refine nw.go ?_);refine sO ?_;refine nw.go ?_;refine hk.back 1900000012 (found.length+1) found.length 8000 0 _ _ _ u (by decide) rfl (by simp) rfl ?_;(rw[eSet u]);refine hk.go ?_;simp -dsimp -implicitDefEqProofs only[go_sem,eD];refine ⟨_,rfl,aO ?_ ?_⟩;(simp -dsimp -implicitDefEqProofs only[go_sem,eM]);(simp -dsimp -implicitDefEqProofs only[go_sem];simp[ao,aq,ck]))
theorem Ji (m:Mem)(sh:Sh)(xs:lA)(i j:Nat)(k:AV->Prop):iy m (.bo sh xs i j) k=k (.bo sh xs i j):=rfl
attribute [go_sem] Ji
theorem gY (m:aJ)(tb ab:lL):aq (oA m tb ab)=[]:=rfl
theorem QF (m:aJ)(tb ab:lL)(m1 m2:Mem):xI m1 m2 (oA m tb ab) (oA m tb ab)=True:=by simp[oA,xI,jN,leaf]
theorem Nb {α:Type}(m m2:Mem)(v v2:Nat)(sh:Sh)(zs:List α)(xs xs2:lA):xK m m2 (some (.row v sh zs.isEmpty xs)) (.row v2 sh zs.isEmpty xs2)=(xs=xs2):=by simp[xK]
theorem Tn (l l2:Nat)(m:aJ)(tb ab:lL):qC l l2 (oA m tb ab)=oA m tb ab:=by simp[oA,qC,iR]
attribute [go_sem] gY QF Nb Tn
def VU (lim bz b:Nat)(st:SS × Bool):Prop:=st.1.tries<=lim/\st.1.found.length<=bz+b
theorem GO (lim bz:Nat):∀a b s,a<=b->VU lim bz a s->VU lim bz b s:=λa b s h hs=>⟨hs.1,by have:=hs.2;omega⟩
theorem QG (m:aJ)(tb:lL)(lim d bz:Nat)(part:lL):∀b s k,VU lim bz b s->VU lim bz (b+1) (gF m tb lim part (gh m tb lim d) s k).1:=λb s k h=>by obtain ⟨g1,_,g3,_⟩:=Ul (m:=m) (part:=part) (λp z h=>Dw m tb lim d p z h) s k h.1;exact ⟨g1,by have:=h.2;omega⟩
structure YJ (m:aJ) (tb:lL) (lim d bz:Nat) (part:lL):Prop where
 oE:aU m=true
 tl:tb.length<=1000
 row:∀i (hi:i<tb.length),tb[i].length=(tb.getD 0 []).length
 wd:(tb.getD 0 []).length<=1000
 pl:part.length+(d+1)=tb.length
 px:∀x∈part,(x.length:Int)=m.ae/\∀y∈x,0<=y/\y<m.ak
 lm:lim<=4000
 fb:bz+(d+1)*1000000<=20000000
def QH (m:aJ)(tb:lL)(lim d:Nat):Prop:=∀(part:lL) (z:SS),part.length+d=tb.length->(∀x∈part,(x.length:Int)=m.ae/\∀y∈x,0<=y/\y<m.ak)->z.tries<=lim->z.found.length+d*1000000<=20000000→
    fN pG 256 [(1900000017,.box 0 [eI m.ae,eI m.ak,eI m.step,eI m.same,eI m.least,aQ tb,eI (lim:Int),eI (z.tries:Int),eB z.stop,.cn 255 [.ptr 1900000010 0 0 0,.ptr 1900000006 0 0 0]]),(1900000010,.box 0 [.ref 1900000012 z.found.length 0 z.found.length]),(1900000012,.row z.found.length ⟨1,false⟩ true (z.found.map aQ)),(1900000006,.box 0 [eI 1])] [.ptr 1900000017 0 0 0,aQ part,.val (.slice none 0 0)] (λr m'=>r=eB (gh m tb lim d part z).1/\m'=[(1900000017,.box 0 [eI m.ae,eI m.ak,eI m.step,eI m.same,eI m.least,aQ tb,eI (lim:Int),eI (((gh m tb lim d part z).2).tries:Int),eB ((gh m tb lim d part z).2).stop,.cn 255 [.ptr 1900000010 0 0 0,.ptr 1900000006 0 0 0]]),(1900000010,.box 0 [.ref 1900000012 ((gh m tb lim d part z).2).found.length 0 ((gh m tb lim d part z).2).found.length]),(1900000012,.row ((gh m tb lim d part z).2).found.length ⟨1,false⟩ true (((gh m tb lim d part z).2).found.map aQ)),(1900000006,.box 0 [eI 1])])
theorem Xv (m:aJ)(tb:lL)(lim d bz:Nat)(part:lL)(hG:YJ m tb lim d bz part)(hIH:QH m tb lim d)(c:lI)(af:Nat)(ys:lA)(st:SS × Bool)(hc:(c.length:Int)=m.ae)(hcx:∀x∈c,0<=x/\x<m.ak)(hy:ys.take c.length=c.map eI)(hs:∃b:Nat,VU lim bz b st/\b+1<=1000000):
 fN pG 271 [(1700000010,.row af ⟨1,false⟩ true ys),(1600000003,.box 0 [.ptr 1900000017 0 0 0]),(1600000004,.box 0 [aQ part]),(1600000005,.box 0 [.val (.slice none 0 0)]),(1600000007,.box 0 [eB st.2]),(1600000008,.box 0 [.cn 280 (oA m tb part)]),(1900000017,.box 0 [eI m.ae,eI m.ak,eI m.step,eI m.same,eI m.least,aQ tb,eI (lim:Int),eI (st.1.tries:Int),eB st.1.stop,.cn 255 [.ptr 1900000010 0 0 0,.ptr 1900000006 0 0 0]]),(1900000010,.box 0 [.ref 1900000012 st.1.found.length 0 st.1.found.length]),(1900000012,.row st.1.found.length ⟨1,false⟩ true (st.1.found.map aQ)),(1900000006,.box 0 [eI 1])] [.ref 1700000010 af 0 c.length,.ptr 1600000005 0 0 0,.ptr 1600000003 0 0 0,.ptr 1600000007 0 0 0,.ptr 1600000008 0 0 0,.ptr 1600000004 0 0 0]
  (λr m'=>r=eB (gF m tb lim part (gh m tb lim d) st c).2/\m'=[(1700000010,.row af ⟨1,false⟩ true ys),(1600000003,.box 0 [.ptr 1900000017 0 0 0]),(1600000004,.box 0 [aQ part]),(1600000005,.box 0 [.val (.slice none 0 0)]),(1600000007,.box 0 [eB ((gF m tb lim part (gh m tb lim d) st c).1).2]),(1600000008,.box 0 [.cn 280 (oA m tb part)]),(1900000017,.box 0 [eI m.ae,eI m.ak,eI m.step,eI m.same,eI m.least,aQ tb,eI (lim:Int),eI ((((gF m tb lim part (gh m tb lim d) st c).1).1).tries:Int),eB (((gF m tb lim part (gh m tb lim d) st c).1).1).stop,.cn 255 [.ptr 1900000010 0 0 0,.ptr 1900000006 0 0 0]]),(1900000010,.box 0 [.ref 1900000012 (((gF m tb lim part (gh m tb lim d) st c).1).1).found.length 0 (((gF m tb lim part (gh m tb lim d) st c).1).1).found.length]),(1900000012,.row (((gF m tb lim part (gh m tb lim d) st c).1).1).found.length ⟨1,false⟩ true ((((gF m tb lim part (gh m tb lim d) st c).1).1).found.map aQ)),(1900000006,.box 0 [eI 1])]):=by
 refine fN.cT 46 [.tmp 7] func271 (hv:=?_);have lz:=aI hG.oE;have hst:=QE m tb part c hG.oE hG.tl (by have:=hG.pl;omega) hG.row hG.wd (λx hx=>(hG.px x hx).1) hc;have hyl:c.length<=ys.length:=by have:=congrArg List.length hy;simp at this;omega
 obtain ⟨b,⟨hs1,hs2⟩,hs3⟩:=hs;obtain ⟨⟨tries,stop,found⟩,more⟩:=st;simp only at hs1 hs2 ⊢;unfold gF;simp only;have hlm:=hG.lm;have eT:((tries+1:Nat):Int)=(tries:Int)+1:=by omega
 rcases e1:((tries:Int)==(lim:Int)) with _|_
 . rcases e2:nU m tb part c with _|_
   . rw [e2] at hst;unfold oA at hst ⊢;simp -dsimp -implicitDefEqProofs only [go_sem];refine aj.draw mixed rfl ?_;simp -dsimp -implicitDefEqProofs only [go_sem,e1];refine ⟨by exact rfl,⟨by omega,by omega⟩,hyl,?_⟩;simp -dsimp -implicitDefEqProofs only [go_sem,hy];refine aa hst ?_;simp -dsimp -implicitDefEqProofs only [go_sem];refine ⟨_,rfl,aO ?_ ?_⟩
     . simp -dsimp -implicitDefEqProofs only[go_sem,eT]
     simp -dsimp -implicitDefEqProofs only[go_sem];simp[ao,aq,ck]
   rw[e2] at hst;unfold oA at hst ⊢;have hcl:=QA part (by have:=hG.pl;have:=hG.tl;omega);have hck:=yD c (by omega);simp -dsimp -implicitDefEqProofs only[go_sem];refine aj.draw mixed rfl ?_;simp -dsimp -implicitDefEqProofs only[go_sem,e1];refine ⟨by exact rfl,⟨by omega,by omega⟩,hyl,?_⟩;simp -dsimp -implicitDefEqProofs only[go_sem,hy];refine aa hst ?_;simp -dsimp -implicitDefEqProofs only[go_sem];refine aj.lB 7 mixed rfl ?_;simp -dsimp -implicitDefEqProofs only[ba,bp,uq2,uq3];simp -dsimp -implicitDefEqProofs only[go_sem];refine ik hcl (by decide) rfl (by decide) ?_;simp -dsimp -implicitDefEqProofs only[go_sem,hy,uq3];refine ⟨hyl,?_⟩;(refine an (hck) ?_;try simp -dsimp -implicitDefEqProofs only[go_sem, *])
   have lx:=hIH (part++[c]) ⟨tries+1,stop,found⟩ (by have:=hG.pl;simp;omega) (λx hx=>by
    rcases dL.1 hx with hx|hx
    . exact hG.px x hx
    . rw[dE] at hx;subst hx;exact ⟨hc,hcx⟩) (by
    have:tries≠lim:=λe=>by rw[e] at e1;simp at e1
    simp only;omega) (by have:=hG.fb;simp only;omega)
   have eM:(part++[c]).map aM=part.map aM++[aM c]:=(by simp);refine .inr ⟨by have:=hG.pl;have:=hG.tl;omega,by exact rfl,?_⟩
   refine Iy 40000 1 ⟨1,false⟩ false (part.map aM++[aM c]) [.ptr 1900000017 0 0 0,aQ (part++[c]),.val (.slice none 0 0)] (by decide) rfl
    (FP (by simp[ao]) (Mj 0 (part.length+1) (by simp) (by rw[uq3,a_ (by simp),←eM]) (FP (by simp[ao]) Mk))) ?_
   refine Ml lx ⟨⟨?_,?_⟩,?_,?_⟩ ?_
   . simp -dsimp -implicitDefEqProofs only[go_sem]
   . simp -dsimp -implicitDefEqProofs only[go_sem];simp[ao,aq,ck]
   . simp -dsimp -implicitDefEqProofs only[go_sem,eT]
   . simp -dsimp -implicitDefEqProofs only[go_sem];simp
   rintro r m' ⟨hr,hm'⟩;rw[hr,hm'];generalize gh m tb lim d (part++[c]) ⟨tries+1,stop,found⟩=w at*;simp -dsimp -implicitDefEqProofs only[go_sem];refine ⟨_,rfl,aO ?_ ?_⟩
   . simp -dsimp -implicitDefEqProofs only[go_sem]
   simp -dsimp -implicitDefEqProofs only[go_sem];simp[ao,aq,ck]
 unfold oA;simp -dsimp -implicitDefEqProofs only[go_sem];refine aj.draw mixed rfl ?_;simp -dsimp -implicitDefEqProofs only[go_sem,e1];refine ⟨by exact rfl,_,rfl,aO ?_ ?_⟩
 . simp -dsimp -implicitDefEqProofs only[go_sem]
 simp -dsimp -implicitDefEqProofs only[go_sem];simp[ao,aq,ck]
theorem Xw (m:aJ)(hm:aU m=true)(tb:lL)(lim d bz:Nat)(part:lL)(hG:YJ m tb lim d bz part)(hIH:QH m tb lim d):∀(n:Nat) (c:lI) (t:KS (SS × Bool)),(c.length:Int)+n=m.ae->(∀x∈c,0<=x/\x<m.ak)->DW c t->(∃b:Nat,VU lim bz b t.s/\b+8^n<=1000000)→
 fN pG 262 [(1700000008,.box 0 [.ref 1700000010 t.af 0 c.length]),(1700000010,.row t.af ⟨1,false⟩ true (t.zs.map eI)),(1700000004,.box 0 [eI m.ae,eI m.ak,eI m.step,eI m.same,eI m.least]),(1700000007,.box 0 [.cn 271 [.ptr 1600000005 0 0 0,.ptr 1600000003 0 0 0,.ptr 1600000007 0 0 0,.ptr 1600000008 0 0 0,.ptr 1600000004 0 0 0]]),(1700000005,.box 0 [.val (.slice none 0 0)]),(1700000006,.box 0 [.val .nilFunc]),(1700000009,.box 0 [.cn 262 [.ptr 1700000008 0 0 0,.ptr 1700000004 0 0 0,.ptr 1700000007 0 0 0,.ptr 1700000005 0 0 0,.ptr 1700000006 0 0 0,.ptr 1700000009 0 0 0]]),(1600000003,.box 0 [.ptr 1900000017 0 0 0]),(1600000004,.box 0 [aQ part]),(1600000005,.box 0 [.val (.slice none 0 0)]),(1600000007,.box 0 [eB t.s.2]),(1600000008,.box 0 [.cn 280 (oA m tb part)]),(1900000017,.box 0 [eI m.ae,eI m.ak,eI m.step,eI m.same,eI m.least,aQ tb,eI (lim:Int),eI (t.s.1.tries:Int),eB t.s.1.stop,.cn 255 [.ptr 1900000010 0 0 0,.ptr 1900000006 0 0 0]]),(1900000010,.box 0 [.ref 1900000012 t.s.1.found.length 0 t.s.1.found.length]),(1900000012,.row t.s.1.found.length ⟨1,false⟩ true (t.s.1.found.map aQ)),(1900000006,.box 0 [eI 1])] [eB false,.ptr 1700000008 0 0 0,.ptr 1700000004 0 0 0,.ptr 1700000007 0 0 0,.ptr 1700000005 0 0 0,.ptr 1700000006 0 0 0,.ptr 1700000009 0 0 0]
  (λr m'=>r=eB (bn m (gF m tb lim part (gh m tb lim d)) n c t).2/\m'=[(1700000008,.box 0 [.ref 1700000010 (bn m (gF m tb lim part (gh m tb lim d)) n c t).1.af 0 c.length]),(1700000010,.row (bn m (gF m tb lim part (gh m tb lim d)) n c t).1.af ⟨1,false⟩ true ((bn m (gF m tb lim part (gh m tb lim d)) n c t).1.zs.map eI)),(1700000004,.box 0 [eI m.ae,eI m.ak,eI m.step,eI m.same,eI m.least]),(1700000007,.box 0 [.cn 271 [.ptr 1600000005 0 0 0,.ptr 1600000003 0 0 0,.ptr 1600000007 0 0 0,.ptr 1600000008 0 0 0,.ptr 1600000004 0 0 0]]),(1700000005,.box 0 [.val (.slice none 0 0)]),(1700000006,.box 0 [.val .nilFunc]),(1700000009,.box 0 [.cn 262 [.ptr 1700000008 0 0 0,.ptr 1700000004 0 0 0,.ptr 1700000007 0 0 0,.ptr 1700000005 0 0 0,.ptr 1700000006 0 0 0,.ptr 1700000009 0 0 0]]),(1600000003,.box 0 [.ptr 1900000017 0 0 0]),(1600000004,.box 0 [aQ part]),(1600000005,.box 0 [.val (.slice none 0 0)]),(1600000007,.box 0 [eB ((bn m (gF m tb lim part (gh m tb lim d)) n c t).1.s).2]),(1600000008,.box 0 [.cn 280 (oA m tb part)]),(1900000017,.box 0 [eI m.ae,eI m.ak,eI m.step,eI m.same,eI m.least,aQ tb,eI (lim:Int),eI (((bn m (gF m tb lim part (gh m tb lim d)) n c t).1.s).1.tries:Int),eB ((bn m (gF m tb lim part (gh m tb lim d)) n c t).1.s).1.stop,.cn 255 [.ptr 1900000010 0 0 0,.ptr 1900000006 0 0 0]]),(1900000010,.box 0 [.ref 1900000012 ((bn m (gF m tb lim part (gh m tb lim d)) n c t).1.s).1.found.length 0 ((bn m (gF m tb lim part (gh m tb lim d)) n c t).1.s).1.found.length]),(1900000012,.row ((bn m (gF m tb lim part (gh m tb lim d)) n c t).1.s).1.found.length ⟨1,false⟩ true (((bn m (gF m tb lim part (gh m tb lim d)) n c t).1.s).1.found.map aQ)),(1900000006,.box 0 [eI 1])]):=by
 intro n;have ⟨⟨zy,zz⟩,hd1,hd2⟩:=aI hm;induction n with
 |zero=>
  intro c t hl hc hz hs;have hk:((c.length:Int)==m.ae)=true:=beq_iff_eq.2 (by omega);have ht:List.take c.length (uq8 eI t.zs)=uq8 eI c:=by rw[←List.map_take,hz.1]
  have hzl:c.length<=(uq8 eI t.zs).length:=by simpa using hz.2
  refine fN.cT 91 [.tmp 8] func262 (hv:=?_);simp -dsimp -implicitDefEqProofs only[go_sem,hk];refine aj.lB 8 mixed rfl ?_;simp -dsimp -implicitDefEqProofs only[ba,bp,uq2,uq3];have tf:=iE c (by omega);rcases hq:decide ((bg c c.length:Int)<m.least) with _|_
  . have hq':=of_decide_eq_false hq;have e6:bn m (gF m tb lim part (gh m tb lim d)) 0 c t=(⟨t.af,t.zs,((gF m tb lim part (gh m tb lim d)) t.s c).1⟩,((gF m tb lim part (gh m tb lim d)) t.s c).2):=(by rw [bn,if_neg hq']);rw [e6];simp -dsimp -implicitDefEqProofs only [go_sem,ht,uq3];refine ⟨hz.2,?_⟩;(refine an (tf) ?_;try simp -dsimp -implicitDefEqProofs only [go_sem, *]);refine ⟨by exact rfl,hz.2,?_⟩;refine cU (Xv m tb lim d bz part hG hIH c t.af (t.zs.map eI) t.s (by omega) hc ht (by simpa using hs)) ⟨⟨?_,?_⟩,?_,?_⟩ ?_
    . simp -dsimp -implicitDefEqProofs only[go_sem]
    . simp -dsimp -implicitDefEqProofs only[go_sem];simp[ao,aq,ck,gY]
    . simp -dsimp -implicitDefEqProofs only[go_sem]
    . simp -dsimp -implicitDefEqProofs only[go_sem];simp
    rintro r m' ⟨hr,hm'⟩;rw[hr,hm'];simp -dsimp -implicitDefEqProofs only[go_sem];refine ⟨_,rfl,aO ?_ ?_⟩
    . simp -dsimp -implicitDefEqProofs only[go_sem]
    simp -dsimp -implicitDefEqProofs only[go_sem];simp[ao,aq,ck,gY]
  have hq':=oT hq;have e6:bn m (gF m tb lim part (gh m tb lim d)) 0 c t=(t,true):=by rw[bn,if_pos hq']
  rw[e6];simp -dsimp -implicitDefEqProofs only[go_sem,ht,uq3];refine ⟨hz.2,?_⟩;(refine an (tf) ?_;try simp -dsimp -implicitDefEqProofs only[go_sem, *]);refine ⟨by exact rfl,_,rfl,aO ?_ ?_⟩
  . simp -dsimp -implicitDefEqProofs only[go_sem]
  simp -dsimp -implicitDefEqProofs only[go_sem];simp[ao,aq,ck,gY]
 |succ n ih=>
  intro c t hl hc hz hs;have hk:((c.length:Int)==m.ae)=false:=beq_eq_false_iff_ne.2 (by omega);refine fN.cT 91 [.tmp 8] func262 (hv:=?_);simp -dsimp -implicitDefEqProofs only[go_sem,hk];refine aj.up [0,1,2,5,6,9,10] [47,61,69,70,72,84] [1700000008,1700000010,1600000007,1900000017,1900000010,1900000012] m.ak.toNat (λi=>(eO (aT m (gF m tb lim part (gh m tb lim d)) n c) t i).2=true) (λi=>[(11,eI i)]) (λi=>[(1700000008,.box 0 [.ref 1700000010 (eO (aT m (gF m tb lim part (gh m tb lim d)) n c) t i).1.af 0 c.length]),(1700000010,.row (eO (aT m (gF m tb lim part (gh m tb lim d)) n c) t i).1.af ⟨1,false⟩ true ((eO (aT m (gF m tb lim part (gh m tb lim d)) n c) t i).1.zs.map eI)),(1600000007,.box 0 [eB ((eO (aT m (gF m tb lim part (gh m tb lim d)) n c) t i).1.s).2]),(1900000017,.box 0 [eI m.ae,eI m.ak,eI m.step,eI m.same,eI m.least,aQ tb,eI (lim:Int),eI (((eO (aT m (gF m tb lim part (gh m tb lim d)) n c) t i).1.s).1.tries:Int),eB ((eO (aT m (gF m tb lim part (gh m tb lim d)) n c) t i).1.s).1.stop,.cn 255 [.ptr 1900000010 0 0 0,.ptr 1900000006 0 0 0]]),(1900000010,.box 0 [.ref 1900000012 ((eO (aT m (gF m tb lim part (gh m tb lim d)) n c) t i).1.s).1.found.length 0 ((eO (aT m (gF m tb lim part (gh m tb lim d)) n c) t i).1.s).1.found.length]),(1900000012,.row ((eO (aT m (gF m tb lim part (gh m tb lim d)) n c) t i).1.s).1.found.length ⟨1,false⟩ true (((eO (aT m (gF m tb lim part (gh m tb lim d)) n c) t i).1.s).1.found.map aQ))]) rfl ?_ rfl (λi hi hI=>?_) (λhI=>?_)
  . simp -dsimp -implicitDefEqProofs only[go_sem];simp[eO]
  . have hu:DW c (eO (aT m (gF m tb lim part (gh m tb lim d)) n c) t i).1:=p8 hz i;have kx:∃b:Nat,VU lim bz b (eO (aT m (gF m tb lim part (gh m tb lim d)) n c) t i).1.s/\b+8^n<=1000000:=by
     obtain ⟨b0,hJ0,hb0⟩:=hs;refine ⟨b0+i*8^n,Gt (GO lim bz) (λc' t' b'=>za hm (GO lim bz) (QG m tb lim d bz part) n c' t' b') t b0 hJ0 i,?_⟩;have h8:(i+1)*8^n<=8*8^n:=Nat.mul_le_mul_right _ (by omega);have h9:(i+1)*8^n=i*8^n+8^n:=Nat.succ_mul i (8^n);have h10:8^(n+1)=8*8^n:=(by rw[Nat.pow_succ,Nat.mul_comm]);omega
    have hlt:decide ((i:Int)<m.ak)=true:=dT (by omega);have hS:=iW hI;have cy:(aT m (gF m tb lim part (gh m tb lim d)) n c i (eO (aT m (gF m tb lim part (gh m tb lim d)) n c) t i).1).2=false->bn m (gF m tb lim part (gh m tb lim d)) (n+1) c t=aT m (gF m tb lim part (gh m tb lim d)) n c i (eO (aT m (gF m tb lim part (gh m tb lim d)) n c) t i).1:=λh=>by rw[←hS] at h ⊢;rw[dS,pj h m.ak.toNat (by omega)]
    rw[hS];clear hS hI;generalize (eO (aT m (gF m tb lim part (gh m tb lim d)) n c) t i).1=u at*;obtain ⟨hu1,hu2⟩:=hu;have htk:List.take c.length (uq8 eI u.zs)=uq8 eI c:=(by rw[←List.map_take,hu1]);have hcl:c.length<=6:=(by omega)
    have hih:=ih (c++[(i:Int)]) ⟨u.af+1,c++[(i:Int)],u.s⟩ (by simp;omega) (λx hx=>by
     rcases dL.1 hx with h|h
     . exact hc x h
     simp at h;omega) ⟨cM,Nat.le_refl _⟩ kx
    simp only [List.length_append,uq5,uq7,Nat.zero_add] at hih;have cH:=kE (c++[(i:Int)]) (by simp) (by simp;omega);simp only [List.length_append,uq5,uq7,Nat.zero_add,Nat.add_sub_cancel] at cH;have oB:uq8 eI c++[eI (i:Int)]=uq8 eI (c++[(i:Int)]):=(by simp);have l8:bK m c i=(c.isEmpty|| !decide (fm ((i:Int)-c.getD (c.length-1) 0)>m.step)):=by
     unfold bK;congr 1;by_cases h:fm ((i:Int)-c.getD (c.length-1) 0)<=m.step
     . rw[decide_eq_true h,decide_eq_false (by omega)];rfl
     rw[decide_eq_false h,decide_eq_true (by omega)];rfl
    have dM:gb m c i= !decide ((aZ (c++[(i:Int)]) c.length:Int)>m.same):=by
     unfold gb;by_cases h:(aZ (c++[(i:Int)]) c.length:Int)<=m.same
     . rw[decide_eq_true h,decide_eq_false (by omega)];rfl
     rw[decide_eq_false h,decide_eq_true (by omega)];rfl
    simp -dsimp -implicitDefEqProofs only[go_sem,hlt];refine aj.draw mixed rfl ?_;have hfn:rR pG 216 .neq=some false:=rfl;rcases hk0:decide ((c.length:Int)>0) with _|_
    . have hce:c=[]:=by
       have:=of_decide_eq_false hk0;exact List.eq_nil_of_length_eq_zero (by omega)
      have hsT:bK m c i=true:=(by rw[hce];rfl);clear hce;simp -dsimp -implicitDefEqProofs only[go_sem,hfn,hk0];refine ⟨by exact rfl,hu2,by omega,?_⟩;refine aj.lB 13 mixed rfl ?_;simp -dsimp -implicitDefEqProofs only[ba,bp,uq2,uq3];have htl:List.take (c.length+1) (uq8 eI (c++[(i:Int)]))=uq8 eI (c++[(i:Int)]):=a_ (by simp);rcases hq2:decide ((aZ (c++[(i:Int)]) c.length:Int)>m.same) with _|_
      . have hcB:aT m (gF m tb lim part (gh m tb lim d)) n c i u=bn m (gF m tb lim part (gh m tb lim d)) n (c++[(i:Int)]) ⟨u.af+1,c++[(i:Int)],u.s⟩:=(by rw [aT,if_pos hsT,if_pos (by rw [dM,hq2];rfl),hu1]);rw [hcB] at cy ⊢;clear hcB;generalize bn m (gF m tb lim part (gh m tb lim d)) n (c++[(i:Int)]) ⟨u.af+1,c++[(i:Int)],u.s⟩=w at*;obtain ⟨w,b⟩:=w;simp -dsimp -implicitDefEqProofs only [go_sem,htk,oB,htl];(refine an (cH) ?_;try simp -dsimp -implicitDefEqProofs only [go_sem, *]);refine ⟨by exact rfl,?_⟩;refine cU hih ⟨⟨?_,?_⟩,?_,?_⟩ ?_
        . simp -dsimp -implicitDefEqProofs only[go_sem]
        . simp -dsimp -implicitDefEqProofs only[go_sem];simp[ao,aq,ck,gY]
        . simp -dsimp -implicitDefEqProofs only[go_sem]
        . simp -dsimp -implicitDefEqProofs only[go_sem];simp
        rintro r m' ⟨hr,hm'⟩;rw[hr,hm'];clear hr hm';cases b with
        |false=>
         rw[cy rfl];simp -dsimp -implicitDefEqProofs only[go_sem];refine ⟨by omega,_,rfl,aO ?_ ?_⟩
         . simp -dsimp -implicitDefEqProofs only[go_sem]
         simp -dsimp -implicitDefEqProofs only[go_sem];simp[ao,aq,ck,gY]
        |true=>
         simp -dsimp -implicitDefEqProofs only[go_sem];exact ⟨by omega,⟨by omega,by omega⟩,by simp⟩
      have hcB:aT m (gF m tb lim part (gh m tb lim d)) n c i u=(⟨u.af+1,c++[(i:Int)],u.s⟩,true):=(by rw[aT,if_pos hsT,if_neg (by rw[dM,hq2];exact λh=>by cases h),hu1]);rw[hcB];clear hcB cy;simp -dsimp -implicitDefEqProofs only[go_sem,htk,oB,htl];(refine an (cH) ?_;try simp -dsimp -implicitDefEqProofs only[go_sem, *]);exact ⟨by exact rfl,by omega,⟨by omega,by omega⟩,by simp⟩
    have hkp:=oT hk0;have hla:c.getD (c.length-1) 0=c[c.length-1]:=(by simp[List.getD_eq_getElem?_getD,show c.length-1<c.length by omega]);have kc:(uq8 eI u.zs)[c.length-1]? =some (eI (c.getD (c.length-1) 0)):=by have h1:(List.take c.length (uq8 eI u.zs))[c.length-1]? =(uq8 eI u.zs)[c.length-1]? :=(by rw[List.getElem?_take];simp;omega);rw[←h1,htk,hla];simp[show c.length-1<c.length by omega]
    have hlb:=hc _ (uq4 (show c.length-1<c.length by omega));rw[←hla] at hlb;generalize c.getD (c.length-1) 0=z at*;clear hla;have e1:((c.length:Int)-1).toNat=c.length-1:=(by omega);have ql:=jr ((i:Int)-z) (by omega);rcases hq:decide (fm ((i:Int)-z)>m.step) with _|_
    . have hsT:bK m c i=true:=(by rw [l8,hq];simp);simp -dsimp -implicitDefEqProofs only [go_sem,hfn,hk0,e1,kc];refine ⟨⟨by omega,by omega⟩,⟨by omega,by omega⟩,⟨by omega,by omega⟩,?_⟩;(refine an (ql) ?_;try simp -dsimp -implicitDefEqProofs only [go_sem, *]);refine ⟨by exact rfl,by omega,?_⟩;refine aj.lB 13 mixed rfl ?_;simp -dsimp -implicitDefEqProofs only [ba,bp,uq2,uq3];have htl:List.take (c.length+1) (uq8 eI (c++[(i:Int)]))=uq8 eI (c++[(i:Int)]):=a_ (by simp);rcases hq2:decide ((aZ (c++[(i:Int)]) c.length:Int)>m.same) with _|_
      . have hcB:aT m (gF m tb lim part (gh m tb lim d)) n c i u=bn m (gF m tb lim part (gh m tb lim d)) n (c++[(i:Int)]) ⟨u.af+1,c++[(i:Int)],u.s⟩:=(by rw [aT,if_pos hsT,if_pos (by rw [dM,hq2];rfl),hu1]);rw [hcB] at cy ⊢;clear hcB;generalize bn m (gF m tb lim part (gh m tb lim d)) n (c++[(i:Int)]) ⟨u.af+1,c++[(i:Int)],u.s⟩=w at*;obtain ⟨w,b⟩:=w;simp -dsimp -implicitDefEqProofs only [go_sem,htl];(refine an (cH) ?_;try simp -dsimp -implicitDefEqProofs only [go_sem, *]);refine ⟨by exact rfl,?_⟩;refine cU hih ⟨⟨?_,?_⟩,?_,?_⟩ ?_
        . simp -dsimp -implicitDefEqProofs only[go_sem]
        . simp -dsimp -implicitDefEqProofs only[go_sem];simp[ao,aq,ck,gY]
        . simp -dsimp -implicitDefEqProofs only[go_sem]
        . simp -dsimp -implicitDefEqProofs only[go_sem];simp
        rintro r m' ⟨hr,hm'⟩;rw[hr,hm'];clear hr hm';cases b with
        |false=>
         rw[cy rfl];simp -dsimp -implicitDefEqProofs only[go_sem];refine ⟨by omega,_,rfl,aO ?_ ?_⟩
         . simp -dsimp -implicitDefEqProofs only[go_sem]
         simp -dsimp -implicitDefEqProofs only[go_sem];simp[ao,aq,ck,gY]
        |true=>
         simp -dsimp -implicitDefEqProofs only[go_sem];exact ⟨by omega,⟨by omega,by omega⟩,by simp⟩
      have hcB:aT m (gF m tb lim part (gh m tb lim d)) n c i u=(⟨u.af+1,c++[(i:Int)],u.s⟩,true):=(by rw[aT,if_pos hsT,if_neg (by rw[dM,hq2];exact λh=>by cases h),hu1]);rw[hcB];clear hcB cy;simp -dsimp -implicitDefEqProofs only[go_sem,htl];(refine an (cH) ?_;try simp -dsimp -implicitDefEqProofs only[go_sem, *]);exact ⟨by exact rfl,by omega,⟨by omega,by omega⟩,by simp⟩
    have hsF:bK m c i=false:=by
     rw[l8,hq];cases c with
     |nil=>simp at hkp
     |cons=>rfl
    have hcB:aT m (gF m tb lim part (gh m tb lim d)) n c i u=(u,true):=(by rw[aT,if_neg (by rw[hsF];exact λh=>by cases h)]);rw[hcB];clear hcB cy;simp -dsimp -implicitDefEqProofs only[go_sem,hfn,hk0,e1,kc];refine ⟨⟨by omega,by omega⟩,⟨by omega,by omega⟩,⟨by omega,by omega⟩,?_⟩;(refine an (ql) ?_;try simp -dsimp -implicitDefEqProofs only[go_sem, *]);exact ⟨by exact rfl,⟨by omega,by omega⟩,by simp⟩
  simp -dsimp -implicitDefEqProofs only[pz,b7,eR,cE,↓reduceIte,dh];have hlt:decide (((m.ak.toNat:Nat):Int)<m.ak)=false:=dF (by omega);simp -dsimp -implicitDefEqProofs only[go_sem,hlt];rw[dS];refine ⟨_,⟨by rw[hI],rfl⟩,aO ?_ ?_⟩
  . simp -dsimp -implicitDefEqProofs only[go_sem]
  simp -dsimp -implicitDefEqProofs only[go_sem];simp[ao,aq,ck,gY]
theorem VV (m:aJ)(tb:lL)(lim d:Nat)(lz:aU m=true)(htl:tb.length<=1000)(Hd:∀i (hi:i<tb.length),tb[i].length=(tb.getD 0 []).length)(hwd:(tb.getD 0 []).length<=1000)(hlm:lim<=4000)(hIH:QH m tb lim d):QH m tb lim (d+1):=by
 intro part z hpl hpx htr hfb;have hG:YJ m tb lim d z.found.length part:=⟨lz,htl,Hd,hwd,hpl,hpx,hlm,hfb⟩;have tg:=aI lz
 have e6:=Xw m lz tb lim d z.found.length part hG hIH m.ae.toNat [] ⟨0,[],(z,true)⟩ (by simp;omega) (λx hx=>by cases hx) ⟨rfl,Nat.le_refl _⟩ (by
  have h8:(8:Nat)^m.ae.toNat<=8^6:=Nat.pow_le_pow_right (by decide) (by omega)
  exact ⟨0,⟨htr,Nat.le_refl _⟩,by omega⟩)
 have hsp:=(iG m (gF m tb lim part (gh m tb lim d)) m.ae.toNat [] ⟨0,[],(z,true)⟩ ⟨rfl,Nat.le_refl _⟩).2.1;rw[show a6 m m.ae.toNat []=bx m from rfl] at hsp;rw[GN,←hsp];clear hsp;have hst:=GL m tb part lz htl (by omega) Hd hwd hpx;generalize bn m (gF m tb lim part (gh m tb lim d)) m.ae.toNat [] ⟨0,[],(z,true)⟩=w at*;have e:((part.length:Int)==(tb.length:Int))=false:=by simp;omega
 simp only[uq7,bk] at e6;refine fN.cT 39 [.tmp 6] func256 (hv:=?_);simp -dsimp -implicitDefEqProofs only[go_sem];refine aj.draw mixed rfl ?_;simp -dsimp -implicitDefEqProofs only[go_sem,e];refine ⟨by exact rfl,?_⟩;refine aj.draw mixed rfl ?_;simp -dsimp -implicitDefEqProofs only[go_sem];refine aH hst (by simp[ax,ao,aq,aF]) ?_;simp -dsimp -implicitDefEqProofs only[go_sem];refine ⟨by exact rfl,?_⟩;refine aj.lB 7 mixed rfl ?_;simp -dsimp -implicitDefEqProofs only[ba,bp,uq2,uq3];simp -dsimp -implicitDefEqProofs only[go_sem];refine ⟨by exact rfl,?_⟩;refine pc 1600000000 310000 16 [] func222 rfl rfl rfl rfl rfl (by exact oT rfl) ?_;simp -dsimp -implicitDefEqProofs only[go_sem];refine jl 1700000000 e6 ⟨?_,?_⟩ ⟨⟨?_,?_⟩,?_,?_⟩ ?_
 . simp -dsimp -implicitDefEqProofs only[go_sem]
 . simp -dsimp -implicitDefEqProofs only[go_sem]
 . simp -dsimp -implicitDefEqProofs only[go_sem]
 . simp -dsimp -implicitDefEqProofs only[go_sem];all_goals try (simp[ao,aq,ck,gY];done)
 . simp -dsimp -implicitDefEqProofs only[go_sem]
 . simp -dsimp -implicitDefEqProofs only[go_sem];all_goals try (simp;done)
 rintro r m' ⟨hr,hm'⟩;rw[hr,hm'];simp -dsimp -implicitDefEqProofs only[go_sem];refine ⟨_,rfl,aO ?_ ?_⟩
 . simp -dsimp -implicitDefEqProofs only[go_sem]
 simp -dsimp -implicitDefEqProofs only[go_sem];simp[ao,aq,ck]
theorem fN.YK {P:pR}{f:fI}{m0:Mem}{x z:AV}{sh:Sh}{post:AV->Mem->Prop}(h:fN P f m0 [x,.arr sh [],z] post):fN P f m0 [x,.val (.slice none 0 0),z] post:=by
 refine ⟨h.1,λw φ fp S vs hsz hR=>h.2 w φ fp S vs hsz {hR with tm:=λt=>?_,tl:=λt l af hl=>?_}⟩
 . have:=hR.tm t;rw [bI] at this ⊢;match t,this with
   |0,this=>exact this
   |1,this=>
    have this:RV w S φ (.val (.slice none 0 0)) _:=this;obtain ⟨e,_⟩:=aS this;show RV w S φ (.arr sh []) _;rw[←e];exact .rd _ _ (.nil _ _)
   |2,this=>exact this
   |_+3,this=>exact this
 have:=hR.tl t l af;rw[bI] at this hl;match t,this,hl with
 |0,this,hl=>exact this hl
 |1,_,hl=>cases hl
 |2,this,hl=>exact this hl
 |_+3,this,hl=>exact this hl
theorem GP (m:aJ)(tb:lL)(lim:Nat)(lz:aU m=true)(htl:tb.length<=1000)(Hd:∀i (hi:i<tb.length),tb[i].length=(tb.getD 0 []).length)(hwd:(tb.getD 0 []).length<=1000)(hlm:lim<=4000)(ht0:0<tb.length):∀d,QH m tb lim d
 |0=>λpart z hpl hpx htr hfb=>by
  have tg:=aI lz;exact VT m tb lim part z htl (by omega) (by omega) (λx hx=>by have:=(hpx x hx).1;omega) (by omega)
 |d+1=>VV m tb lim d lz htl Hd hwd hlm (GP m tb lim lz htl Hd hwd hlm ht0 d)
theorem GQ {m:aJ}{t:lL}{lim:Nat}(h:k_ m t lim=0):lim<=4000:=by
 unfold k_ at h;split at h
 . split at h
   . rename_i hi;simp only[bA,uq0,decide_eq_true_eq] at hi;omega
   exact absurd h (by decide)
 exact absurd h (by decide)
theorem GR (m:aJ)(t:lL)(lim:Nat)(h:t.length<=1048576)(h2:∀x∈t,x.length<=1048576):Fn pG 160 [jR m t,.val (.slice none 0 0),eI lim] true (λr=>su r (lX m t lim)):=by
 refine Fn.cT 40 [.tmp 6,.tmp 7,.tmp 8] func160 (hv:=?_);have hs:=zT m t lim h h2;unfold lX;by_cases hc:k_ m t lim=0
 . have te:=GQ hc;rw [if_pos hc];rw [hc] at hs;have e:((0:Int) != 0)=false:=rfl;have hsy:eX m t=true:=by
    unfold k_ at hc;by_cases hb:eX m t=true
    . exact hb
    rw[if_neg hb] at hc;exact absurd hc (by decide)
   have hF:M0 m t []:=VQ hsy (by simp) (λx hx=>by cases hx);have hgo:=GP m t lim hF.oE hF.tl hF.row hF.wd te hF.t0 t.length [] ⟨0,false,[]⟩ (by simp) (λx hx=>by cases hx) (Nat.zero_le _) (by have:=hF.tl;have:=iV hsy;simp;omega);have hgo:=fN.YK hgo;have hgf:=Ct (t:=t) (lim:=lim) hF.oE t.length [] ⟨0,false,[]⟩ (λx hx=>by cases hx) rfl (Nat.zero_le _) rfl;have hgl:=(Dw m t lim t.length [] ⟨0,false,[]⟩ (Nat.zero_le _)).le;have hok:=(k9 (m:=m) (t:=t) (lim:=lim) t.length [] ⟨0,false,[]⟩ (λk h=>by cases h) (Nat.zero_le _) rfl).fl;rw[hgf] at hok ⊢;clear hgf;generalize gh m t lim t.length [] ⟨0,false,[]⟩=w at*;simp -dsimp -implicitDefEqProofs only[go_sem];refine aa hs ?_;simp -dsimp -implicitDefEqProofs only[go_sem,e];have e1:decide ((1:Int)>0)=true:=rfl;refine bJ 300000 25 [.tmp 8,.tmp 9] func211 rfl rfl rfl rfl rfl (by exact oT rfl) ?_;simp -dsimp -implicitDefEqProofs only[go_sem,e1,uq3,List.set_cons_zero,List.set_cons_succ];refine jl 1900000000 hgo ⟨?_,?_⟩ ⟨⟨?_,?_⟩,?_,?_⟩ ?_
   . simp -dsimp -implicitDefEqProofs only[go_sem]
   . simp -dsimp -implicitDefEqProofs only[go_sem]
   . simp -dsimp -implicitDefEqProofs only[go_sem]
   . simp -dsimp -implicitDefEqProofs only[go_sem];all_goals try (simp[ao,aq,ck];done)
   . simp -dsimp -implicitDefEqProofs only[go_sem]
   . simp -dsimp -implicitDefEqProofs only[go_sem];all_goals try (simp;done)
   rintro r m' ⟨hr,hm'⟩;rw[hr,hm'];obtain ⟨b,tr,st,fd⟩:=w;simp only at hgl ⊢;rcases fd with _|⟨f,_|⟨f2,r2⟩⟩
   . have e2:decide (((0:Nat):Int)>0)=false:=rfl;have e3:decide ((0:Int)>0)=false:=rfl;cases st
     . simp -dsimp -implicitDefEqProofs only[go_sem,e3,uq7,bk,fV];all_goals first|rfl|skip
     simp -dsimp -implicitDefEqProofs only[go_sem,e3,uq7,bk,fV];all_goals first|rfl|skip
   . have e2:decide (((0+1:Nat):Int)>0)=true:=rfl;have e3:decide (((1:Nat):Int)>0)=true:=rfl;have e4:decide ((1:Int)>0)=true:=rfl;have hfl:0<(f.map aM).length:=by
      have:=(hok f (by simp)).1;have:=hF.t0;simp only[uq7,Nat.zero_add] at*;rw[uq6];omega
     simp -dsimp -implicitDefEqProofs only[go_sem,e2,uq5,uq7,uq9,bk];refine aj.C8 300012 1 0 500000 [aQ f] (f.map aM) ⟨1,false⟩ (by decide) rfl rfl hfl rfl λu=>?_;refine aj.Vu ?_;refine aj.draw mixed rfl ?_;simp -dsimp -implicitDefEqProofs only[go_sem,List.set_cons_zero];((with_reducible and_intros);all_goals try first|omega|exact rfl);refine hk.untold 6 500000 0 ⟨1,false⟩ (f.map aM) u rfl rfl ?_;refine hk.go ?_;simp -dsimp -implicitDefEqProofs only[go_sem,fV];all_goals first|(simp;done)|skip
   simp at hgl
 rw[if_neg hc];have e:(k_ m t lim != 0)=true:=bne_iff_ne.2 hc;simp -dsimp -implicitDefEqProofs only[go_sem];refine aa hs ?_;simp -dsimp -implicitDefEqProofs only[go_sem,e];all_goals first|rfl|skip
theorem zU (m:aJ)(t:lL)(lim:Nat)(h:t.length<=1048576)(h2:∀x∈t,x.length<=1048576):Fn pG 116 [jR m t,eI lim] true (λr=>su r (lX m t lim)):=by
 refine Fn.cT 13 [.tmp 4,.tmp 5,.tmp 6] func116 (hv:=?_);have hf:Fn pG 160 [jR m t,.val (.slice none 0 0),eI lim] true (· =lX m t lim):=Fn.nil (Fn.mono (GR m t lim h h2) λx hx=>⟨_,hx,rfl⟩);rcases F' m t lim with ⟨f,tr,e,_⟩|⟨c,_,e⟩
 . rw[e] at hf ⊢;simp -dsimp -implicitDefEqProofs only[go_sem];refine aa hf ?_;simp -dsimp -implicitDefEqProofs only[go_sem];all_goals first|(simp;done)|skip
 rw[e] at hf ⊢;simp -dsimp -implicitDefEqProofs only[go_sem];refine aa hf ?_;simp -dsimp -implicitDefEqProofs only[go_sem];all_goals first|rfl|skip
theorem Jj {α:Type}(t:List α)(at' i:Nat)(h:i<t.length):(t.take (i+1)).eraseIdx at'=(t.take i).eraseIdx at'++if i=at' then [] else [t[i]]:=by
 rw[List.take_succ_eq_append_getElem h];have hl:(t.take i).length=i:=by simp;omega
 by_cases e:i=at'
 . subst e;rw[if_pos rfl,List.append_nil,List.eraseIdx_of_length_le (l:=t.take i) (by omega),List.eraseIdx_append_of_length_le (by omega),hl,Nat.sub_self];simp
 rw[if_neg e];by_cases h2:at'<i
 . rw[List.eraseIdx_append_of_lt_length (by omega)]
 rw[List.eraseIdx_append_of_length_le (by omega),List.eraseIdx_of_length_le (by simp;omega),List.eraseIdx_of_length_le (by omega)]
theorem s9 (t:lL)(at':Nat)(h:t.length<=1000)(h2:∀x∈t,x.length<=1048576):Fn pG 95 [aQ t,eI at'] false (· =aQ (t.eraseIdx at')):=by
 refine Fn.bP 26 [.tmp 4] func95 (hv:=?_);have Nt:=λi h=>Jj t at' i h;have fW:(t.take t.length).eraseIdx at'=t.eraseIdx at':=by rw[cM]
 have hlen:∀i,((t.take i).eraseIdx at').length<=1000:=λi=>by have:=List.length_eraseIdx_le (t.take i) at';simp at this;omega
 have h0:(t.take 0).eraseIdx at'=[]:=by simp
 generalize hG:(λi=>(t.take i).eraseIdx at')=G at*;have eG:∀i,(t.take i).eraseIdx at'=G i:=λi=>by rw[←hG]
 simp only[eG] at Nt fW hlen h0;clear hG eG;simp -dsimp -implicitDefEqProofs only[go_sem];refine aj.up [0,1] [10,22,23,24] [7] t.length (λ_=>True) (λi=>[(6,eI i),(5,.ref 7 0 0 (G i).length)]) (λi=>[(7,.row 0 ⟨1,false⟩ (G i).isEmpty ((G i).map aM))]) trivial ?_ rfl (λi hi _=>?_) (λ_=>?_)
 . rw[h0];simp -dsimp -implicitDefEqProofs only[go_sem,List.isEmpty_nil,bk,uq7]
 . have gi:=get_some hi;have li:=aE hi;have ho:=ua t[i] (h2 _ (uq4 hi));have hs:=Nt i hi;have Za:=hlen i;have hE:∀C:lL,C.isEmpty=false\/C.length=0:=λC=>by cases C with|nil=>exact .inr rfl|cons=>exact .inl rfl
   generalize t[i]=x at*;have e2:=λK:lL=>show (K++[x]).map aM=K.map aM++[aM x] by simp
   have e3:=λK:lL=>show (K++[x]).isEmpty=false by simp
   clear Nt hlen;generalize G i=K at*;generalize G (i+1)=K2 at*;have tK:(K.map aM).take K.length=K.map aM:=a_ (by simp);by_cases e:i=at'
   . rw[if_pos e,List.append_nil] at hs;subst hs;have ee:((i:Int) != (at':Int))=false:=(by rw[e];simp);simp -dsimp -implicitDefEqProofs only[go_sem,li,ee];((with_reducible and_intros);all_goals try first|(refine ⟨?_,?_⟩<;>omega)|exact rfl)
   rw[if_neg e] at hs;subst hs;have ee:((i:Int) != (at':Int))=true:=(by simp;omega);simp -dsimp -implicitDefEqProofs only[go_sem,gi,li,ee];((with_reducible and_intros);all_goals try omega);refine av ho (by simp[ax,ao,aF]) ?_;simp -dsimp -implicitDefEqProofs only[go_sem];refine .inr ⟨by omega,hE K,⟨by omega,by omega⟩,?_⟩;simp -dsimp -implicitDefEqProofs only[go_sem,e2,e3];all_goals try exact rfl
 rw[fW];generalize t.eraseIdx at'=K at*;simp -dsimp -implicitDefEqProofs only[go_sem,aA]
open Go.Lib
structure Dk where
 m:aJ
 a:lL
 k:lL
abbrev mg (d:Dk):AV:=Nx d.m d.a d.k
def kt (d:Dk):Bool:=fS d.m d.a d.k
def QI:Dk:=⟨⟨4,5,3,2,2⟩,[],[]⟩
inductive Dx where
 |lq (m:aJ)
 |key (x y:List UInt8)
 |drop (n:Nat)
 |find (n:Nat)
 |Nz
 |cj
 |pD
 |count
 |j8
 |lock (n:Nat)
 |opens (x:List UInt8)
 |pE (n s:Nat)
def wa (d:Dk)(x y:lU):Dk × Int:=
 if (kb d.m x).2=0 then
  if y.all dR=true then
   if fS d.m (d.a++[bt y]) (d.k++[(kb d.m x).1])=true then (⟨d.m,d.a++[bt y],d.k++[(kb d.m x).1]⟩,0) else (d,2)
  else (d,6)
 else (d,(kb d.m x).2)
def gO (m:aJ)(t:lL)(lim:Nat):lL × Int × Int:=
 if k_ m t lim=0 then
  (match (dQ m t lim t.length [] ⟨0,false,[]⟩).2.found with
    |f::_=>(f,((dQ m t lim t.length [] ⟨0,false,[]⟩).2.tries:Int),0)
    | []=>([],0,if (dQ m t lim t.length [] ⟨0,false,[]⟩).2.stop=true then 3 else 4))
 else ([],0,k_ m t lim)
theorem GS (m:aJ)(t:lL)(lim:Nat):su (lX m t lim) (.aX [aQ (gO m t lim).1,eI (gO m t lim).2.1,eI (gO m t lim).2.2]):=by
 unfold lX gO fV;generalize dQ m t lim t.length [] ⟨0,false,[]⟩=F;obtain ⟨b,tr,st,fd⟩:=F;split
 . cases fd with
   |nil=>exact ⟨rfl,rfl,rfl,rfl⟩
   |cons f r=>exact ⟨rfl,rfl,rfl,rfl⟩
 exact ⟨rfl,rfl,rfl,rfl⟩
theorem QJ {m:aJ}{t:lL}{lim:Nat}(h:(gO m t lim).2.2=0):eX m t=true/\(gO m t lim).1.length=t.length/\∀k∈(gO m t lim).1,fD m k=true:=by
 unfold gO at h ⊢;by_cases hc:k_ m t lim=0
 . have hs:eX m t=true:=by
    cases h:eX m t with
    |true=>rfl
    |false=>rw[k_,h,if_neg (by simp)] at hc;exact absurd hc (by decide)
   rw[if_pos hc] at h ⊢;have hok:=k9 (m:=m) (t:=t) (lim:=lim) t.length [] ⟨0,false,[]⟩ (λk h=>by cases h) (Nat.zero_le _) rfl;generalize dQ m t lim t.length [] ⟨0,false,[]⟩=F at*;obtain ⟨b,tr,st,fd⟩:=F;obtain ⟨g1,g2,g3,g4⟩:=hok;simp only at g1 g2 g3 g4 h ⊢;cases fd with
   |nil=>
    cases st<;>simp at h
   |cons f r=>
    have hf:=g4 f (List.mem_cons_self ..);have hn:=aI (lS hs);refine ⟨hs,by simpa using hf.1,λk hk=>?_⟩;exact beq_iff_eq.2 (qG.fault (kq (by omega) (hf.2 k hk)))
 rw[if_neg hc] at h;exact absurd h hc
def dU (d:Dk):Dx->Dk × Int
 | .lq m=>if aU m=true then (⟨m,[],[]⟩,0) else (d,1)
 | .key x y=>wa d x y
 | .drop n=>if n<d.k.length then (⟨d.m,d.a.eraseIdx n,d.k.eraseIdx n⟩,0) else (d,2)
 | .find n=>if (gO d.m d.a n).2.2=0 then (⟨d.m,d.a,(gO d.m d.a n).1⟩,0) else (d,(gO d.m d.a n).2.2)
 |_=>(d,0)
def b9 (e:lU)(d:Dk):Dx->lU × Int
 | .Nz=>(itoa (mV d.m d.a d.k).length,bV d.m d.a d.k)
 | .cj=>(itoa (if bh d.m d.a d.k=true then ((cj d.m d.a d.k).length:Int) else 0),if bh d.m d.a d.k=true then 0 else 1)
 | .count=>(itoa (if aU d.m=true then iK d.m else 0),if aU d.m=true then 0 else 1)
 | .j8=>(itoa (if bh d.m d.a d.k=true then oz d.m d.a d.k else 0),if bh d.m d.a d.k=true then 0 else 1)
 | .lock n=>if bV d.m d.a d.k=0 then if n<(d.a.getD 0 []).length then (qk (pins d.m (bQ d.m d.a d.k n)),0) else ([],2) else ([],bV d.m d.a d.k)
 | .opens x=>if (kb d.m x).2=0 then if (Cj d.m d.a d.k (kb d.m x).1).2=0 then (y2 (Cj d.m d.a d.k (kb d.m x).1).1,0) else (e,(Cj d.m d.a d.k (kb d.m x).1).2) else ([],(kb d.m x).2)
 | .pD=>(match zd d.m d.a d.k with| []=>[45]|g::_=>lf g,if bh d.m d.a d.k=true then 0 else 1)
 | .pE n s=>if n<d.k.length then j5 d.m (d.k.getD n []) 0 s else ([],2)
 |_=>([],0)
theorem Nc (e e':lU)(d:Dk)(c:Dx):(b9 e d c).2=(b9 e' d c).2:=by
 cases c<;>simp only[b9];split
 . split<;>rfl
 rfl
theorem Nd (e e':lU)(d:Dk)(c:Dx)(h:(b9 e d c).2=0):(b9 e d c).1=(b9 e' d c).1:=by
 cases c<;>simp only[b9];simp only[b9] at h;split at h
 . rename_i h1;rw [if_pos h1,if_pos h1];split at h
   . rename_i h2;rw[if_pos h2,if_pos h2]
   rename_i h2;exact absurd h h2
 rename_i h1;exact absurd h h1
def zi:Dx->Bool
 | .lq _=>true
 | .key _ _=>true
 | .drop _=>true
 | .find _=>true
 |_=>false
inductive mW:List (List UInt8)->List Int->Dx->Prop where
 |lq (x1 x2 x3 x4 x5:List UInt8) (n1 n2 n3 n4 n5:Nat):(n1<=9999999999999/\n2<=9999999999999/\n3<=9999999999999/\n4<=9999999999999/\n5<=9999999999999)->mW [gT,x1,x2,x3,x4,x5] [n1,n2,n3,n4,n5] (.lq ⟨n1,n2,n3,n4,n5⟩)
 |key (x y:List UInt8):mW [lh,x,y] [] (.key x y)
 |drop (x:List UInt8) (n:Nat):n<=9999999999999->mW [iH,x] [n] (.drop n)
 |find (x:List UInt8) (n:Nat):n<=9999999999999->mW [gX,x] [n] (.find n)
 |Nz:mW [iY] [] .Nz
 |cj:mW [fe] [] .cj
 |pD:mW [eu] [] .pD
 |count:mW [fT] [] .count
 |j8:mW [dr] [] .j8
 |lock (x:List UInt8) (n:Nat):n<=9999999999999->mW [je,x] [n] (.lock n)
 |opens (x:List UInt8):mW [dw,x] [] (.opens x)
 |pE (x y:List UInt8) (n s:Nat):(n<=9999999999999/\s<=9999999999999)->mW [dZ,x,y] [n,s] (.pE n s)
theorem Nf (w:lU)(h:0<=cD w):(cD w=0/\(w=iY\/w=fe\/w=eu\/w=fT\/w=dr))\/(cD w=1/\(w=iH\/w=gX\/w=je))\/(cD w=2/\w=dZ)\/(cD w=5/\w=gT)\/(cD w=11/\w=dw)\/(cD w=12/\w=lh):=by
 unfold cD at h ⊢;rcases Classical.em (w=iY) with q|q
 . simp only[if_pos q];simp[q]
 simp only[if_neg q] at h ⊢;rcases Classical.em (w=fe) with q2|q2
 . simp only[if_pos q2];simp[q2]
 simp only[if_neg q2] at h ⊢;rcases Classical.em (w=eu) with q3|q3
 . simp only[if_pos q3];simp[q3]
 simp only[if_neg q3] at h ⊢;rcases Classical.em (w=fT) with q4|q4
 . simp only[if_pos q4];simp[q4]
 simp only[if_neg q4] at h ⊢;rcases Classical.em (w=dr) with q5|q5
 . simp only[if_pos q5];simp[q5]
 simp only[if_neg q5] at h ⊢;rcases Classical.em (w=iH) with q6|q6
 . simp only[if_pos q6];simp[q6]
 simp only[if_neg q6] at h ⊢;rcases Classical.em (w=gX) with q7|q7
 . simp only[if_pos q7];simp[q7]
 simp only[if_neg q7] at h ⊢;rcases Classical.em (w=je) with q8|q8
 . simp only[if_pos q8];simp[q8]
 simp only[if_neg q8] at h ⊢;rcases Classical.em (w=dZ) with q9|q9
 . simp only[if_pos q9];simp[q9]
 simp only[if_neg q9] at h ⊢;rcases Classical.em (w=gT) with q10|q10
 . simp only[if_pos q10];simp[q10]
 simp only[if_neg q10] at h ⊢;rcases Classical.em (w=dw) with q11|q11
 . simp only[if_pos q11];simp[q11]
 simp only[if_neg q11] at h ⊢;rcases Classical.em (w=lh) with q12|q12
 . simp only[if_pos q12];simp[q12]
 simp only[if_neg q12] at h;exact absurd h (by decide)
theorem jX {w:lU}(h:(dW w).2=true):∃n:Nat,(dW w).1=n/\n<=9999999999999:=by
 obtain ⟨v1,v2⟩:=tU h;obtain ⟨h1,h2,h3⟩:=(uf w).2 h;have hd:∀c∈w,48<=c.toNat/\c.toNat<=57:=by intro c hc;rw[fh v1] at v2;exact p5 _ c (by rw[←v2];exact hc)
 have hb:=sP w 0 hd;have hp:10^w.length<=10000000000000:=Kk h3;have hv:(dW w).1=(jQ 0 w:Nat):=by
  unfold dW at h ⊢;split
  . rename_i hc;rw[if_pos hc] at h;cases h
  rename_i hc;rw[if_neg hc] at h;split
  . rfl
  rename_i hd2;rw[if_neg hd2] at h;cases h
 exact ⟨jQ 0 w,hv,by omega⟩
theorem Kv {α:Type}{r:List α}(h:r.length=2):∃x y,r=[x,y]:=by
 match r,h with
 | [x,y],_=>exact ⟨x,y,rfl⟩
theorem Cu {s:lU}(h:(ft s).2.2=true):∃c,mW (ft s).1 (ft s).2.1 c:=by
 unfold ft at h ⊢;generalize dm 32 s=ws at*;split at h
 . cases h
 rename_i h1;rw[if_neg h1];have hk0:¬cD (ws.headD [])<0:=λq=>h1 (.inl q);have hl:(ws.length:Int)=(cD (ws.headD [])).tmod 10+1:=Classical.not_not.1 λq=>h1 (.inr q);clear h1;cases ws with
 |nil=>
  have:(0:Int)<=(cD (([]:List lU).headD [])).tmod 10:=Int.tmod_nonneg _ (by omega);simp only[uq7] at hl;omega
 |cons w r=>
 simp only[List.headD_cons,uq5,uq2,uq3] at h hk0 hl ⊢;have cP:=Nf w (by omega);split at h
 . rename_i h10;rw [if_pos h10];rcases cP with ⟨e,_⟩|⟨e,_⟩|⟨e,_⟩|⟨e,_⟩|⟨e,q⟩|⟨e,q⟩
   . omega
   . omega
   . omega
   . omega
   . rw[e] at hl;have hl:((r.length+1:Nat):Int)=2:=hl;obtain ⟨x,rfl⟩:=List.length_eq_one_iff.1 (show r.length=1 by omega);subst q;exact ⟨_,.opens x⟩
   rw[e] at hl;have hl:((r.length+1:Nat):Int)=3:=hl;obtain ⟨x,y,rfl⟩:=Kv (show r.length=2 by omega);subst q;exact ⟨_,.key x y⟩
 rename_i h10;rw[if_neg h10];split at h
 . rename_i hv;rw [if_pos hv];have hv:=List.all_eq_true.1 hv;rcases cP with ⟨e,q⟩|⟨e,q⟩|⟨e,q⟩|⟨e,q⟩|⟨e,_⟩|⟨e,_⟩
   . rw [e] at hl;have hl:((r.length+1:Nat):Int)=1:=hl;obtain rfl:=List.eq_nil_of_length_eq_zero (show r.length=0 by omega);rcases q with rfl|rfl|rfl|rfl|rfl
     . exact ⟨_,.Nz⟩
     . exact ⟨_,.cj⟩
     . exact ⟨_,.pD⟩
     . exact ⟨_,.count⟩
     exact ⟨_,.j8⟩
   . rw [e] at hl;have hl:((r.length+1:Nat):Int)=2:=hl;obtain ⟨x,rfl⟩:=List.length_eq_one_iff.1 (show r.length=1 by omega);obtain ⟨n,hn,hb⟩:=jX (hv x (by simp));simp only [uq9,bk,hn];rcases q with rfl|rfl|rfl
     . exact ⟨_,.drop x n hb⟩
     . exact ⟨_,.find x n hb⟩
     exact ⟨_,.lock x n hb⟩
   . rw[e] at hl;have hl:((r.length+1:Nat):Int)=3:=hl;obtain ⟨x,y,rfl⟩:=Kv (show r.length=2 by omega);obtain ⟨n,hn,hb⟩:=jX (hv x (by simp));obtain ⟨n2,hn2,hb2⟩:=jX (hv y (by simp));simp only[uq9,bk,hn,hn2];subst q;exact ⟨_,.pE x y n n2 ⟨hb,hb2⟩⟩
   . rw [e] at hl;have hl:((r.length+1:Nat):Int)=6:=hl;match r,hl with
     | [x1,x2,x3,x4,x5],_=>
       obtain ⟨n1,e1,b1⟩:=jX (hv x1 (by simp));obtain ⟨n2,e2,b2⟩:=jX (hv x2 (by simp));obtain ⟨n3,e3,b3⟩:=jX (hv x3 (by simp));obtain ⟨n4,e4,b4⟩:=jX (hv x4 (by simp));obtain ⟨n5,e5,b5⟩:=jX (hv x5 (by simp));simp only[uq9,bk,e1,e2,e3,e4,e5];subst q;exact ⟨_,.lq x1 x2 x3 x4 x5 n1 n2 n3 n4 n5 ⟨b1,b2,b3,b4,b5⟩⟩
     | [],hl=>simp at hl
     | [_],hl=>simp at hl
     | [_,_],hl=>simp at hl
     | [_,_,_],hl=>simp at hl
     | [_,_,_,_],hl=>simp at hl
     |_::_::_::_::_::_::_,hl=>simp at hl;omega
   . omega
   omega
 cases h
noncomputable def GU (s:lU):Option Dx:=if h:(ft s).2.2=true then some (Cu h).choose else none
theorem zj {s:lU}(h:(ft s).2.2=true):∃c,GU s=some c/\mW (ft s).1 (ft s).2.1 c:=⟨_,by rw[GU,dif_pos h],(Cu h).choose_spec⟩
theorem zk {s:lU}(h:(ft s).2.2=false):GU s=none:=by rw[GU,dif_neg (by rw[h];simp)]
def zl (c:Int):lU:=[101,114,114,111,114,32]++itoa c
def VW (d:Dk)(c:Dx):Dk × lU:=
 if zi c=true then (if (dU d c).2=0 then ((dU d c).1,[111,107]) else (d,zl (dU d c).2))
 else if (b9 [] d c).2=0 then (d,(b9 [] d c).1) else (d,zl (b9 [] d c).2)
noncomputable def mX (d:Dk) (l:lU):Dk × lU:=match GU l with
 |some c=>VW d c
 |none=>(d,zl 6)
noncomputable def zm (p:Dk × List lU) (l:lU):Dk × List lU:=((mX p.1 l).1,p.2++[(mX p.1 l).2])
noncomputable def eQ (ls:List lU):Dk × List lU:=ls.foldl zm (QI,[])
theorem zn:eQ []=(QI,[]):=rfl
theorem Ng (ls:List lU)(l:lU):eQ (ls++[l])=zm (eQ ls) l:=by simp[eQ]
theorem uu {ls:List lU}{i:Nat}(h:i<ls.length):eQ (ls.take (i+1))=zm (eQ (ls.take i)) ls[i]:=by rw[List.take_succ_eq_append_getElem h,Ng]
structure Wy (d:Dk):Prop where
 oE:aU d.m=true
 num:(2<=d.m.ae/\d.m.ae<=6)/\2<=d.m.ak/\d.m.ak<=8
 al:d.a.length<=10
 ar:∀x∈d.a,x.length<=12
 kl:d.k.length=d.a.length
 kr:∀x∈d.k,fD d.m x=true
 kn:∀x∈d.k,x.length<=6
 tb:d.a=[]\/iJ d.a=true
theorem uv {t:lL}(h:iJ t=true):∀x∈t,gA (t.getD 0 []).length x=true:=by simp only[iJ,uq0,List.all_eq_true] at h;exact h.2
theorem Cv {n:Nat}{x:lI}(h:gA n x=true):x.length=n/\x.length<=12:=by simp only[gA,uq0,beq_iff_eq,decide_eq_true_eq] at h;exact ⟨h.1.1.1,h.1.2⟩
theorem Wz {d:Dk}(h:kt d=true):Wy d:=by
 simp only [kt,fS,uq0,Bool.or_eq_true,beq_iff_eq,List.all_eq_true] at h;obtain ⟨⟨⟨h1,h2⟩,h3⟩,h4⟩:=h;have hn:=aI h1;obtain ⟨⟨n1,n2⟩,n3,n4⟩:=hn;have htb:d.a=[]\/iJ d.a=true:=by
  rcases h2 with h2|h2
  . exact .inl (List.eq_nil_of_length_eq_zero (by omega))
  exact .inr h2
 refine ⟨h1,⟨⟨by omega,by omega⟩,by omega,by omega⟩,?_,?_,by omega,h4,?_,htb⟩
 . rcases htb with e|e
   . rw[e];simp
   exact (mS e).2.1
 . rcases htb with e|e
   . rw[e];simp
   exact λx hx=>(Cv (uv e x hx)).2
 intro x hx;have:=(gC (h4 x hx)).1;omega
theorem Jk {d:Dk}(h1:aU d.m=true)(h2:d.a=[]\/iJ d.a=true)(h3:d.k.length=d.a.length)(h4:∀x∈d.k,fD d.m x=true):kt d=true:=by
 simp only[kt,fS,uq0,Bool.or_eq_true,beq_iff_eq,List.all_eq_true];refine ⟨⟨⟨h1,?_⟩,by omega⟩,h4⟩;rcases h2 with h2|h2
 . left;rw[h2];rfl
 exact .inr h2
theorem VX:kt QI=true:=by decide
theorem qJ {α:Type}{xs:List α}{i:Nat}{x:α}(h:x∈xs.eraseIdx i):x∈xs:=List.mem_of_mem_eraseIdx h
theorem Jl {t:lL}(h:iJ t=true)(i:Nat):t.eraseIdx i=[]\/iJ (t.eraseIdx i)=true:=by
 have hr:=uv h;have hn:=mS h;cases he:t.eraseIdx i with
 |nil=>exact .inl rfl
 |cons x r=>
  right;have hm:∀y∈x::r,gA (t.getD 0 []).length y=true:=λy hy=>hr y (qJ (i:=i) (by rw[he];exact hy));have hx:=(Cv (hm x (by simp))).1;have hl:=List.length_eraseIdx_le t i;rw[he] at hl;simp only[iJ,uq0,decide_eq_true_eq,List.all_eq_true,List.getD_cons_zero];rw[hx];exact ⟨⟨by simp,by omega⟩,hm⟩
theorem VY {d:Dk}(h:kt d=true)(c:Dx):kt (dU d c).1=true:=by
 have hF:=Wz h;cases c with
 |lq m=>
  simp only[dU];split
  . rename_i hm;exact Jk hm (.inl rfl) rfl (by simp)
  exact h
 |key x y=>
  simp only[dU,wa];split
  . split
    . split
      . rename_i hd;exact hd
      exact h
    exact h
  exact h
 |drop n=>
  simp only[dU];split
  . rename_i hn;refine Jk hF.oE ?_ ?_ λx hx=>hF.kr x (qJ hx)
    . rcases hF.tb with e|e
      . left;simp only;rw[e];rfl
      exact Jl e n
    have:=hF.kl;simp only;rw[List.length_eraseIdx_of_lt (by omega),List.length_eraseIdx_of_lt (by omega)];omega
  exact h
 |find n=>
  simp only[dU];split
  . rename_i hn;obtain ⟨g1,g2,g3⟩:=QJ hn;exact Jk hF.oE hF.tb g2 g3
  exact h
 |_=>exact h
theorem VZ {d:Dk}(h:kt d=true)(c:Dx):kt (VW d c).1=true:=by
 unfold VW;split
 . split
   . exact VY h c
   exact h
 split<;>exact h
theorem Jm {d:Dk}(h:kt d=true)(l:lU):kt (mX d l).1=true:=by
 unfold mX;split
 . exact VZ h _
 exact h
theorem zo (ls:List lU):∀i,kt (eQ (ls.take i)).1=true
 |0=>by rw[bp,zn];exact VX
 |i+1=>by
  by_cases h:i<ls.length
  . rw[uu h];exact Jm (zo ls i) _
  rw[a_ (by omega),←a_ (show ls.length<=i by omega)];exact zo ls i
theorem Dy (ls:List lU):(eQ ls).2.length=ls.length:=by
 have:∀(ls:List lU) p,(ls.foldl zm p).2.length=p.2.length+ls.length:=by
  intro ls;induction ls with
  |nil=>intro p;rfl
  |cons l ls ih=>intro p;rw[List.foldl_cons,ih,zm];simp;omega
 rw[eQ,this];simp
theorem dkA {d:Dk}(hk:kt d=true):Wy d/\d.a.length<=1048576/\(∀x∈d.a,x.length<=1048576)/\d.k.length<=1048576/\∀x∈d.k,x.length<=1048576:=by (have hF:=Wz hk;have ha1:d.a.length<=1048576:=(by have:=hF.al;omega);have ha2:∀x∈d.a,x.length<=1048576:=(λx hx=>by have:=hF.ar x hx;omega);have hk1:d.k.length<=1048576:=(by have:=hF.al;have:=hF.kl;omega);have hk2:∀x∈d.k,x.length<=1048576:=(λx hx=>by have:=hF.kn x hx;omega));exact ⟨hF,ha1,ha2,hk1,hk2⟩
theorem QK (m:aJ)(t:lL)(lim:Nat)(h:t.length<=1048576)(h2:∀x∈t,x.length<=1048576):
 Fn pG 116 [jR m t,eI lim] true (· = .aX [aQ (gO m t lim).1,eI (gO m t lim).2.1,eI (gO m t lim).2.2]):=by
 have h1:Fn pG 116 [jR m t,eI lim] true (· =lX m t lim):=Fn.nil (Fn.mono (zU m t lim h h2) λx hx=>⟨_,hx,rfl⟩);exact Fn.nil (Fn.mono h1 λx hx=>⟨_,by rw[hx];exact GS m t lim,rfl⟩)
theorem QL (m:aJ)(t:lL)(lim:Nat)(h:t.length<=1048576)(h2:∀x∈t,x.length<=1048576):Fn pG 96 [jR m t,eI lim] false (· =lX m t lim):=by
 by_cases hl:lim<=4000
 . exact Dl m t lim h h2 hl
 have hc:=B' m t lim h h2;have hne:k_ m t lim≠0:=λe=>hl (GQ e);have hz:(k_ m t lim != 0)=true:=bne_iff_ne.2 hne;refine Fn.bP 21 [.tmp 4,.tmp 5,.tmp 6] func96 (hv:=?_);unfold lX;rw[if_neg hne];simp -dsimp -implicitDefEqProofs only[go_sem];refine aa hc ?_;simp -dsimp -implicitDefEqProofs only[go_sem,hz]
theorem QM (m:aJ)(t:lL)(lim:Nat)(h:t.length<=1048576)(h2:∀x∈t,x.length<=1048576):
 Fn pG 96 [jR m t,eI lim] false (· = .aX [aQ (gO m t lim).1,eI (gO m t lim).2.1,eI (gO m t lim).2.2]):=
 Fn.uh (Fn.mono (QL m t lim h h2) λx hx=>⟨_,by rw[hx];exact GS m t lim,rfl⟩)
theorem l5 (t:lL)(h:t.length<=1000)(h2:∀x∈t,x.length<=1048576):oh pG 31 [aQ t] ⟨1,false⟩ (t.map aM):=by
 refine oh.cT 21 [.tmp 2] func31 (hv:=?_);simp -dsimp -implicitDefEqProofs only[go_sem];refine aj.up [0] [8,17,18,19] [5] t.length (λ_=>True) (λi=>[(4,eI i),(3,.ref 5 0 0 i)]) (λi=>[(5,.row 0 ⟨1,false⟩ (i==0) ((t.take i).map aM))]) trivial ?_ rfl (λi hi _=>?_) (λ_=>?_)
 . simp -dsimp -implicitDefEqProofs only[go_sem]
 . have gi:=get_some hi;have li:=aE hi;have ho:=ua t[i] (h2 _ (uq4 hi));have e2:(t.take (i+1)).map aM=(t.take i).map aM++[aM t[i]]:=(by rw[List.take_succ_eq_append_getElem hi,List.map_append];rfl);have hln:(t.take i).length=i:=(by simp;omega);have e0:(i+1==0)=false:=rfl;rw[e0,e2];clear e0 e2;generalize t.take i=F at*;generalize t[i]=x at*;have tF:(F.map aM).take i=F.map aM:=a_ (by simp;omega);simp -dsimp -implicitDefEqProofs only[go_sem,gi,li];((with_reducible and_intros);all_goals try omega);refine av ho (by simp[ax,ao,aF]) ?_;simp -dsimp -implicitDefEqProofs only[go_sem];refine .inr ⟨by omega,by omega,(by cases i with|zero=>exact .inr rfl|succ i=>exact .inl rfl),⟨by omega,by omega⟩,?_⟩;simp -dsimp -implicitDefEqProofs only[go_sem,tF];all_goals try exact rfl
 rw[cM];simp -dsimp -implicitDefEqProofs only[go_sem,aA];refine .inr ⟨5,0,by simp,?_⟩;cases t with
 |nil=>exact .inr ⟨rfl,rfl⟩
 |cons x r=>exact .inl rfl
theorem d_.mk {m:Mem}{l v n:Nat}{ys:lA}(hn:n=ys.length)(h:ah m l=some (.row v ⟨1,false⟩ true ys)):d_ m (.ref l v 0 n) ys (some l):=by subst hn;exact .ref l v ys h
theorem pF {Lb La Lc:Nat}{post:lA->lA->lA->Prop}{m:Mem}{x1 x2 x3 x4 x5 xa xc:AV}{ya yc:lA}{oa oc:Option Nat}(h1:ah m Lb=some (.box 0 [x1,x2,x3,x4,x5,xa,xc]))(hl:aq [x1,x2,x3,x4,x5]=[])(ha:d_ m xa ya oa)(hc:d_ m xc yc oc)
 (hn:∀l,oa=some l->oc≠some l) (h2:∀l,oa=some l->l=La\/l<1000000000) (h3:∀l,oc=some l->l=Lc\/l<1000000000) (hp:post [x1,x2,x3,x4,x5] ya yc):W4 Lb La Lc post m:=
 ⟨[x1,x2,x3,x4,x5],xa,xc,ya,yc,oa,oc,h1,hl,ha,hc,hn,h2,h3,hp⟩
theorem gU (Lb La Lc va vk:Nat)(cs ya yc:lA):vv Lb La Lc va vk cs ya yc=[(Lb,.box 0 (cs++[.ref La va 0 ya.length,.ref Lc vk 0 yc.length])),(La,.row va ⟨1,false⟩ true ya),(Lc,.row vk ⟨1,false⟩ true yc)]:=rfl
abbrev Zm (m:aJ):lA:=[eI m.ae,eI m.ak,eI m.step,eI m.same,eI m.least]
abbrev zV (va vk:Nat)(d:Dk):Mem:=vv 1900000006 1900000500 1900000501 va vk (Zm d.m) (d.a.map aM) (d.k.map aM)
def ZD (r0:AV)(d:Dk)(r:AV)(cs ya yc:lA):Prop:=r=r0/\cs=Zm d.m/\ya=d.a.map aM/\yc=d.k.map aM
theorem fN.dk {P:pR}{f:fI}{va vk:Nat}{d d':Dk}{xs:lA}{r0:AV}(h:fN P f (zV va vk d) xs (λr m'=>∃cs ya yc,aq cs=[]/\m'=vv 1900000006 1900000500 1900000501 (va+1) (vk+1) cs ya yc/\ZD r0 d' r cs ya yc)):
 fN P f (zV va vk d) xs (λr m'=>r=r0/\m'=zV (va+1) (vk+1) d'):=
 h.mono λr m' ⟨cs,ya,yc,_,h2,h3,h4,h5,h6⟩=>⟨h3,by rw[h2,h4,h5,h6]⟩
theorem QN {t:lL}(h:iJ t=true):∀x∈t,0<x.length:=λx hx=>by have h1:=uv h x hx;simp only[gA,uq0,beq_iff_eq,decide_eq_true_eq] at h1;omega
theorem Wy.To {d:Dk}(h:Wy d):∀x∈d.a,0<x.length/\x.length<=1048576:=λx hx=>by
 have:=h.ar x hx;rcases h.tb with e|e
 . rw[e] at hx;cases hx
 exact ⟨QN e x hx,by omega⟩
theorem Wy.V1 {d:Dk}(h:Wy d):∀x∈d.k,0<x.length/\x.length<=1048576:=λx hx=>by have:=(gC (h.kr x hx)).1;have:=h.num;omega
theorem QO (d:Dk)(hk:kt d=true)(x y:lU)(hx:x.length<=1000000)(hy:y.length<=1000000)(va vk:Nat):fN pG 113 (zV va vk d) [.ptr 1900000006 0 0 0,eS x,eS y] (λr m'=>r=eI (wa d x y).2/\m'=zV (va+1) (vk+1) (wa d x y).1):=by
 refine fN.dk (fN.tS 76 [.tmp 6] func113 rfl rfl rfl rfl rfl (oT rfl) (by decide) ?_);obtain ⟨hF,ha1,ha2,hk1,hk2⟩:=dkA hk;have hr:=y3 d.m x (by omega);have hal:=hF.al;have hkl:=hF.kl;unfold wa;rw[gU];by_cases hc:(kb d.m x).2=0
 . have e0:((0:Int) != 0)=false:=rfl;rw [if_pos hc];rw [hc] at hr;have hKf:fault d.m (kb d.m x).1=0:=by
    unfold kb at hc ⊢;split at hc
    . rename_i h1;rw [if_pos h1];split at hc
      . rename_i h2;rw[if_pos h2];exact h2
      exact absurd hc (by decide)
    exact absurd hc (by decide)
   have hK1:=(gC (m:=d.m) (c:=(kb d.m x).1) (beq_iff_eq.2 hKf)).1;have hK0:0<(kb d.m x).1.length:=(by have:=hF.num;omega);generalize (kb d.m x).1=K at*;have tK0:(K.map eI).take K.length=K.map eI:=a_ (by simp);simp -dsimp -implicitDefEqProofs only[go_sem,uq6];refine aa hr ?_;simp -dsimp -implicitDefEqProofs only[go_sem,e0];refine aj.up [0,2,7,26] [46,47] [24] y.length (λi=>(y.take i).all dR=true) (λi=>[(9,.ref 24 0 0 i),(27,eI i)]) (λi=>[(24,.row 0 ⟨1,false⟩ true ((bt (y.take i)).map eI))]) rfl ?_ rfl (λi hi hI=>?_) (λhI=>?_)
   . simp -dsimp -implicitDefEqProofs only[go_sem];all_goals first|rfl|skip
   . have hg:(y.getD i 0)=y[i]:=(by rw [List.getD_eq_getElem?_getD,List.getElem?_eq_getElem hi];rfl);have hb:=(y[i]).toNat_lt;have cP:=dA dR y i hi;have hno:=λh=>gQ (p:=dR) hi h;have hdd:=I2 y[i];have htk:bt (y.take (i+1))=bt (y.take i)++[(y[i].toNat:Int)-48]:=by
      rw[List.take_succ_eq_append_getElem hi,bt,List.map_append];rfl
     have hln:(bt (y.take i)).length=i:=(by rw[cZ,List.length_take];omega);rw[htk,List.map_append,List.map_singleton];clear htk;generalize bt (y.take i)=K2 at*;have tK:List.take i (K2.map eI)=K2.map eI:=a_ (by simp[hln]);generalize y[i]=b at*;rcases d1:decide ((b.toNat:Int)<48) with _|_
     . rcases d2:decide ((b.toNat:Int)>57) with _|_
       . have e1:=of_decide_eq_false d1;simp -dsimp -implicitDefEqProofs only[go_sem,aE hi,hg,d1,d2,tK];((with_reducible and_intros);all_goals try first|omega|(refine ⟨?_,?_⟩<;>omega)|exact rfl);all_goals first|(rw[cP,hI];show dR b=true;rw[dR,hdd,d1,d2];rfl)|skip
       have hz:=hno (by rw[dR,hdd,d1,d2];rfl);rw[hz,if_neg (by simp)];simp -dsimp -implicitDefEqProofs only[go_sem,aE hi,hg,d1,d2];((with_reducible and_intros);all_goals try omega);((refine pF (oa:=some 1900000500) (oc:=some 1900000501) rfl ?_ (d_.mk ?_ rfl) (d_.mk ?_ rfl) ?_ ?_ ?_ ⟨rfl,rfl,?_,?_⟩);all_goals first|exact rfl|(simp;done)|skip)
     have hz:=hno (by rw[dR,hdd,d1];rfl);rw[hz,if_neg (by simp)];simp -dsimp -implicitDefEqProofs only[go_sem,aE hi,hg,d1];((with_reducible and_intros);all_goals try omega);((refine pF (oa:=some 1900000500) (oc:=some 1900000501) rfl ?_ (d_.mk ?_ rfl) (d_.mk ?_ rfl) ?_ ?_ ?_ ⟨rfl,rfl,?_,?_⟩);all_goals first|exact rfl|(simp;done)|skip)
   rw[cM] at hI ⊢;rw[hI,if_pos rfl];have hln:=cZ y;generalize bt y=R at*;have tR:List.take y.length (R.map eI)=R.map eI:=a_ (by simp[hln])
   have hd:=tX d.m (d.a++[R]) (d.k++[K]) (by simp;omega) (λz hz=>by
    rcases dL.1 hz with hz|hz
    . exact ha2 z hz
    . rw[dE] at hz;subst hz;omega) (by simp;omega) (λz hz=>by
    rcases dL.1 hz with hz|hz
    . exact hk2 z hz
    rw[dE] at hz;subst hz;have:=hF.num;omega)
   simp only[Nx,aQ,List.map_append,uq9,bk] at hd;have t3:(d.a.map aM++[aM R]).take (d.a.length+1)=d.a.map aM++[aM R]:=a_ (by simp);have t4:(d.k.map aM++[aM K]).take (d.k.length+1)=d.k.map aM++[aM K]:=a_ (by simp);have t1:(d.a.map aM).take d.a.length=d.a.map aM:=a_ (by simp);have t2:(d.k.map aM).take d.k.length=d.k.map aM:=a_ (by simp);rcases hdk:fS d.m (d.a++[R]) (d.k++[K]) with _|_
   . rw [hdk] at hd;rw [if_neg (by simp)];have hl1:=fE d.a (by omega) hF.To;have hl2:=fE d.k (by omega) hF.V1;simp -dsimp -implicitDefEqProofs only [go_sem,aA];refine aj.draw mixed rfl ?_;simp -dsimp -implicitDefEqProofs only [go_sem,t1];refine vw hl1 (by decide) ?_ (by decide) ?_
     . simp -dsimp -implicitDefEqProofs only[go_sem,t1]
     simp -dsimp -implicitDefEqProofs only[go_sem,t1,tR,uq6];refine ⟨by omega,.inr ⟨by omega,?_⟩⟩;refine vw hl2 (by decide) ?_ (by decide) ?_
     . simp -dsimp -implicitDefEqProofs only[go_sem,t2]
     simp -dsimp -implicitDefEqProofs only[go_sem,t2,tK0,uq6];refine .inr ⟨by omega,?_⟩;simp -dsimp -implicitDefEqProofs only[go_sem,t3,t4];((with_reducible and_intros);all_goals try exact rfl);refine aa hd ?_;simp -dsimp -implicitDefEqProofs only[go_sem];((refine pF (oa:=some 1900000500) (oc:=some 1900000501) rfl ?_ (d_.mk ?_ rfl) (d_.mk ?_ rfl) ?_ ?_ ?_ ⟨rfl,rfl,?_,?_⟩);all_goals first|exact rfl|(simp;done)|skip)
   rw[hdk] at hd;rw[if_pos rfl];have hl1:=fE d.a (by omega) hF.To;have hl2:=fE d.k (by omega) hF.V1;have eS1:∀u,(d.a.map aM++[AV.val u]).set d.a.length (.arr ⟨1,false⟩ (R.map eI))=d.a.map aM++[aM R]:=λu=>by rw[List.set_append_right _ _ (by simp)];simp
   have eS2:∀u,(d.k.map aM++[AV.val u]).set d.k.length (.arr ⟨1,false⟩ (K.map eI))=d.k.map aM++[aM K]:=λu=>by rw[List.set_append_right _ _ (by simp)];simp
   have hy0:0<y.length:=by have hF2:=Wz (d:=⟨d.m,d.a++[R],d.k++[K]⟩) hdk;have:=(hF2.To R (by simp)).1;omega
   simp -dsimp -implicitDefEqProofs only[go_sem,aA];refine aj.known 9 24 0 y.length ⟨1,false⟩ _ rfl (by decide) rfl (by simp[hln]) hy0 (by decide) λu1=>?_;refine aj.known 7 19000 0 K.length ⟨1,false⟩ _ rfl (by decide) rfl (by simp) hK0 (by decide) λu2=>?_;refine aj.Vu ?_;refine aj.draw mixed rfl ?_;simp -dsimp -implicitDefEqProofs only[go_sem,t1];refine an hl1 ?_;simp -dsimp -implicitDefEqProofs only[go_sem,t1,uq6];((with_reducible and_intros);all_goals try omega);refine an hl2 ?_;simp -dsimp -implicitDefEqProofs only[go_sem,t2,uq6];((with_reducible and_intros);all_goals try first|omega|exact rfl);refine Go.Vc.hk.back 58000 1 d.a.length 24 0 _ _ _ u1 (by decide) rfl (by simp) rfl ?_;refine Go.Vc.hk.back 66000 1 d.k.length 19000 0 _ _ _ u2 (by decide) rfl (by simp) rfl ?_;rw[eS1 u1,eS2 u2];refine Go.Vc.hk.go ?_;simp -dsimp -implicitDefEqProofs only[go_sem,t3,t4];refine aa hd ?_;simp -dsimp -implicitDefEqProofs only[go_sem];((refine pF (oa:=some 58000) (oc:=some 66000) rfl ?_ (d_.mk ?_ rfl) (d_.mk ?_ rfl) ?_ ?_ ?_ ⟨rfl,rfl,?_,?_⟩);all_goals first|exact rfl|(simp;done)|skip)
 rw[if_neg hc];have e0:((kb d.m x).2 != 0)=true:=bne_iff_ne.2 hc;generalize kb d.m x=K at*;simp -dsimp -implicitDefEqProofs only[go_sem,uq6];refine aa hr ?_;simp -dsimp -implicitDefEqProofs only[go_sem,e0];((refine pF (oa:=some 1900000500) (oc:=some 1900000501) rfl ?_ (d_.mk ?_ rfl) (d_.mk ?_ rfl) ?_ ?_ ?_ ⟨rfl,rfl,?_,?_⟩);all_goals first|exact rfl|(simp;done)|skip)
theorem Cw {d:Dk}(hk:kt d=true):(mV d.m d.a d.k).length<=1000:=by
 unfold mV;split
 . rename_i hc;obtain ⟨h1,h2⟩:=im hc;have:=iV h1;have:=(dK h2).1;have h:=kG d.m d.a d.k d.k.length;have h3:d.k.length*(d.a.getD 0 []).length<=10*12:=Nat.mul_le_mul (by omega) (by omega);unfold gR;omega
 simp
theorem Kw {m:aJ}{t ab:lL}(hd:bh m t ab=true):0<=oz m t ab/\oz m t ab<=1000000:=by
 obtain ⟨h1,h2⟩:=tY hd;have hn:=iV h1;have key:∀l∈ay m t ab (t.getD 0 []).length,0<=fU l/\fU l<=7000:=by
  intro l hl;have hw:=uo (iZ hd) _ l hl;obtain ⟨k,hk,rfl⟩:=l4 hl;have hlk:=zg h1 h2 hk;simp only[fv,uq0,List.all_eq_true] at hlk;have hs:∀x∈bQ m t ab k,1<=x.length:=λx hx=>by have:=hlk.2 x hx;simp only[cK,uq0,decide_eq_true_eq] at this;omega
  refine ⟨?_,hw.2.2.2⟩;have:∀l:lL,(∀x∈l,1<=x.length)->0<=fU l:=by
   intro l;induction l with
   |nil=>intro _;simp[fU]
   |cons x r ih=>
    intro h;have e:fU (x::r)=((x.length:Int)-1)+fU r:=(by simp[fU]);have:=ih λy hy=>h y (List.mem_cons_of_mem _ hy);have:=h x (List.mem_cons_self ..);rw[e];omega
  exact this _ hs
 have sum:∀ls:List lL,(∀l∈ls,0<=fU l/\fU l<=7000)->0<=j6 ls/\j6 ls<=7000*ls.length:=by
  intro ls;induction ls with
  |nil=>intro _;simp[j6]
  |cons x r ih=>
   intro h;have e:j6 (x::r)=fU x+j6 r:=(by simp[j6]);have:=ih λy hy=>h y (List.mem_cons_of_mem _ hy);have:=h x (List.mem_cons_self ..);rw[e,uq5];omega
 have:=sum _ key;rw[dP] at this;unfold oz;omega
theorem GV {m:aJ}{t ab:lL}{g:lI}(h:g∈zd m t ab):bh m t ab=true/\aU m=true/\fault m g=0:=by
 unfold zd at h;split at h
 . rename_i hd;have hF:=iZ hd;have:=hF.num;exact ⟨hd,hF.oE,qG.fault (kq (by omega) (Kr _ _ _ _ g h))⟩
 cases h
theorem Cx (us:lV)(h:us.length=7)(h1:∀u,u∈us->u.oneCell'=true):Fn pG 117 [.bo ⟨7,true⟩ [.agg (us.map .val)] 0 0] false (· = .agg ((us.map .val).take 6)):=by
 match us,h with
 | [u0,u1,u2,u3,u4,u5,u6],_=>
   simp only[uq9,bk,ba,bp];refine Fn.bP 12 [.cell 2 110] func117 (hv:=?_);simp -dsimp -implicitDefEqProofs only[go_sem];refine aj.draw mixed rfl ?_;simp -dsimp -implicitDefEqProofs only[go_sem];all_goals (first|exact rfl|skip)
theorem kI (d:Dk):Fn pG 117 [.bo ⟨7,true⟩ [mg d] 0 0] false (· =jR d.m d.a):=by refine Fn.bP 12 [.cell 2 110] func117 (hv:=?_);simp -dsimp -implicitDefEqProofs only[go_sem];refine aj.draw mixed rfl ?_;simp -dsimp -implicitDefEqProofs only[go_sem];all_goals (first|exact rfl|skip)
theorem Jn (d:Dk)(hk:kt d=true):Fn pG 126 [.bo ⟨7,true⟩ [mg d] 0 0,eS iY] true (· = .aX [eS (b9 [] d .Nz).1,eI (b9 [] d .Nz).2]):=by
 obtain ⟨hF,ha1,ha2,hk1,hk2⟩:=dkA hk;have hs:=kI d;have hq:=uj d.m d.a d.k ha1 ha2 hk1 hk2;have hn:=Cw hk;have ht:=la (n:=((mV d.m d.a d.k).length:Int)) (by unfold jy;omega);have w1:decide (iY=[102,97,108,115,101])=true:=by decide
 simp only[b9];generalize mV d.m d.a d.k=L at*;generalize bV d.m d.a d.k=c at*;refine Fn.au 63 [.tmp 4,.tmp 5] func126 (hv:=?_);simp -dsimp -implicitDefEqProofs only[go_sem,w1];refine aj.draw mixed rfl ?_;simp -dsimp -implicitDefEqProofs only[go_sem];refine aH hs (by simp[ax,ao,aF]) ?_;simp -dsimp -implicitDefEqProofs only[go_sem];refine aH hq (by simp[ax,ao,aq,aF]) ?_;simp -dsimp -implicitDefEqProofs only[go_sem];((with_reducible and_intros);all_goals try exact rfl);refine aa ht ?_;simp -dsimp -implicitDefEqProofs only[go_sem]
theorem zW (d:Dk)(hk:kt d=true):Fn pG 126 [.bo ⟨7,true⟩ [mg d] 0 0,eS fe] true (· = .aX [eS (b9 [] d .cj).1,eI (b9 [] d .cj).2]):=by
 obtain ⟨hF,ha1,ha2,hk1,hk2⟩:=dkA hk;have hs:=kI d;have hq:=zc d.m d.a d.k ha1 ha2 hk1 hk2;have hn:=rF hF.oE d.a d.k;have hb:0<=(if bh d.m d.a d.k=true then ((cj d.m d.a d.k).length:Int) else 0)/\(if bh d.m d.a d.k=true then ((cj d.m d.a d.k).length:Int) else 0)<=262144:=by split<;>omega
 have ht:=la (n:=if bh d.m d.a d.k=true then ((cj d.m d.a d.k).length:Int) else 0) (by unfold jy;omega);have w1:decide (fe=[102,97,108,115,101])=false:=by decide
 have w2:decide (fe=[103,104,111,115,116,115])=true:=by decide
 simp only[b9];generalize (if bh d.m d.a d.k=true then ((cj d.m d.a d.k).length:Int) else 0)=L at*;generalize (if bh d.m d.a d.k=true then (0:Int) else 1)=c at*;refine Fn.au 63 [.tmp 4,.tmp 5] func126 (hv:=?_);simp -dsimp -implicitDefEqProofs only[go_sem,w1,w2];refine aj.draw mixed rfl ?_;simp -dsimp -implicitDefEqProofs only[go_sem];refine aH hs (by simp[ax,ao,aF]) ?_;simp -dsimp -implicitDefEqProofs only[go_sem];refine an hq ?_;simp -dsimp -implicitDefEqProofs only[go_sem];((with_reducible and_intros);all_goals try exact rfl);refine aa ht ?_;simp -dsimp -implicitDefEqProofs only[go_sem]
theorem Dz (d:Dk)(hk:kt d=true):Fn pG 126 [.bo ⟨7,true⟩ [mg d] 0 0,eS fT] true (· = .aX [eS (b9 [] d .count).1,eI (b9 [] d .count).2]):=by
 obtain ⟨hF,ha1,ha2,hk1,hk2⟩:=dkA hk;have hq:=Gn d.m;have hn:=rD hF.oE;have hb:0<=(if aU d.m=true then iK d.m else 0)/\(if aU d.m=true then iK d.m else 0)<=262144:=by split<;>omega
 have ht:=la (n:=if aU d.m=true then iK d.m else 0) (by unfold jy;omega);have w1:decide (fT=[102,97,108,115,101])=false:=by decide
 have w2:decide (fT=[103,104,111,115,116,115])=false:=by decide
 have w3:decide (fT=[99,111,117,110,116])=true:=by decide
 simp only[b9];generalize (if aU d.m=true then iK d.m else 0)=L at*;generalize (if aU d.m=true then (0:Int) else 1)=c at*;refine Fn.au 63 [.tmp 4,.tmp 5] func126 (hv:=?_);simp -dsimp -implicitDefEqProofs only[go_sem,w1,w2,w3];refine aa hq ?_;simp -dsimp -implicitDefEqProofs only[go_sem];refine aa ht ?_;simp -dsimp -implicitDefEqProofs only[go_sem]
theorem zX (d:Dk)(hk:kt d=true):Fn pG 126 [.bo ⟨7,true⟩ [mg d] 0 0,eS dr] true (· = .aX [eS (b9 [] d .j8).1,eI (b9 [] d .j8).2]):=by
 obtain ⟨hF,ha1,ha2,hk1,hk2⟩:=dkA hk;have hs:=kI d;have hq:=v8 d.m d.a d.k ha1 ha2 hk1 hk2;have hb:0<=(if bh d.m d.a d.k=true then oz d.m d.a d.k else 0)/\(if bh d.m d.a d.k=true then oz d.m d.a d.k else 0)<=1000000:=by
  split
  . rename_i h;exact Kw h
  omega
 have ht:=la (n:=if bh d.m d.a d.k=true then oz d.m d.a d.k else 0) (by unfold jy;omega);have w1:decide (dr=[102,97,108,115,101])=false:=by decide
 have w2:decide (dr=[103,104,111,115,116,115])=false:=by decide
 have w3:decide (dr=[99,111,117,110,116])=false:=by decide
 have w4:decide (dr=[119,97,102,101,114,115])=true:=by decide
 simp only[b9];generalize (if bh d.m d.a d.k=true then oz d.m d.a d.k else 0)=L at*;generalize (if bh d.m d.a d.k=true then (0:Int) else 1)=c at*;refine Fn.au 63 [.tmp 4,.tmp 5] func126 (hv:=?_);simp -dsimp -implicitDefEqProofs only[go_sem,w1,w2,w3,w4];refine aj.draw mixed rfl ?_;simp -dsimp -implicitDefEqProofs only[go_sem];refine aH hs (by simp[ax,ao,aF]) ?_;simp -dsimp -implicitDefEqProofs only[go_sem];refine an hq ?_;simp -dsimp -implicitDefEqProofs only[go_sem];((with_reducible and_intros);all_goals try exact rfl);refine aa ht ?_;simp -dsimp -implicitDefEqProofs only[go_sem]
theorem wx (d:Dk)(w:lU)(c:Dx)(hw:w≠je/\w≠dw/\w≠eu/\w≠dZ)(hq:Fn pG 126 [.bo ⟨7,true⟩ [mg d] 0 0,eS w] true (· = .aX [eS (b9 [] d c).1,eI (b9 [] d c).2])):
 Fn pG 85 [.bo ⟨7,true⟩ [mg d] 0 0,nC [w],aM []] true (· = .aX [eS (b9 [] d c).1,eI (b9 [] d c).2]):=by
 have w1:decide (w=[108,111,99,107])=false:=dF hw.1;have w2:decide (w=[111,112,101,110,115])=false:=dF hw.2.1;have w3:decide (w=[119,111,114,115,116])=false:=dF hw.2.2.1;have w4:decide (w=[115,116,97,109,112])=false:=dF hw.2.2.2;generalize b9 [] d c=q at*;refine Fn.au 153 [.tmp 6,.tmp 7] func85 (hv:=?_);simp -dsimp -implicitDefEqProofs only[go_sem,w1,w2,w3,w4,uq9,bk];((with_reducible and_intros);all_goals try omega);refine aa hq ?_;simp -dsimp -implicitDefEqProofs only[go_sem]
theorem Jo (d:Dk)(hk:kt d=true)(x:lU)(n:Nat)(hn:n<=9999999999999):Fn pG 85 [.bo ⟨7,true⟩ [mg d] 0 0,nC [je,x],aM [n]] true (· = .aX [eS (b9 [] d (.lock n)).1,eI (b9 [] d (.lock n)).2]):=by
 obtain ⟨hF,ha1,ha2,hk1,hk2⟩:=dkA hk;have hs:=kI d;have hq:=Jb d.m d.a d.k ha1 ha2 hk1 hk2;have w1:decide (je=[108,111,99,107])=true:=by decide
 simp only[b9];by_cases hc:bV d.m d.a d.k=0
 . obtain ⟨h1,h2⟩:=im hc;rw [if_pos hc] at hq ⊢;rw [hc] at hq;have e0:((0:Int) != 0)=false:=rfl;have hll:=dP d.m d.a d.k (d.a.getD 0 []).length;by_cases hl:n<(d.a.getD 0 []).length
   . rw [if_pos hl];have hg:=jT d.m d.a d.k hl;have h8:∀x∈bQ d.m d.a d.k n,x.length<=8:=λx hx=>by
      have:=iF d.m d.a d.k n x hx;have:=hF.num;omega
     have hp:=GJ d.m (bQ d.m d.a d.k n) hF.oE (zg h1 h2 hl) h8;have dl:decide ((n:Int)≥((d.a.getD 0 []).length:Int))=false:=dF (by omega);generalize qk (pins d.m (bQ d.m d.a d.k n))=T at*;have hlx:n<(ay d.m d.a d.k (d.a.getD 0 []).length).length:=(by omega);generalize bQ d.m d.a d.k n=lk at*;generalize ay d.m d.a d.k (d.a.getD 0 []).length=LL at*;generalize (d.a.getD 0 []).length=D at*;subst hll;refine Fn.au 153 [.tmp 6,.tmp 7] func85 (hv:=?_);simp -dsimp -implicitDefEqProofs only[go_sem,w1,uq9,bk];((with_reducible and_intros);all_goals try omega);refine aj.draw mixed rfl ?_;simp -dsimp -implicitDefEqProofs only[go_sem];refine aH hs (by simp[ax,ao,aF]) ?_;simp -dsimp -implicitDefEqProofs only[go_sem];refine aH hq (by simp[ax,ao,aq,aF]) ?_;simp -dsimp -implicitDefEqProofs only[go_sem,e0,uq9,bk];((with_reducible and_intros);all_goals try first|omega|exact rfl);all_goals try simp -dsimp -implicitDefEqProofs only[go_sem,dl]
     refine aj.draw mixed rfl ?_;simp -dsimp -implicitDefEqProofs only[go_sem,hg,uq9,bk];((with_reducible and_intros);all_goals try omega);refine an hp ?_;simp -dsimp -implicitDefEqProofs only[go_sem];all_goals (first|exact rfl|skip)
   rw[if_neg hl];have dl:decide ((n:Int)≥((d.a.getD 0 []).length:Int))=true:=dT (by omega);generalize ay d.m d.a d.k (d.a.getD 0 []).length=LL at*;generalize (d.a.getD 0 []).length=D at*;subst hll;refine Fn.au 153 [.tmp 6,.tmp 7] func85 (hv:=?_);simp -dsimp -implicitDefEqProofs only[go_sem,w1,uq9,bk];((with_reducible and_intros);all_goals try omega);refine aj.draw mixed rfl ?_;simp -dsimp -implicitDefEqProofs only[go_sem];refine aH hs (by simp[ax,ao,aF]) ?_;simp -dsimp -implicitDefEqProofs only[go_sem];refine aH hq (by simp[ax,ao,aq,aF]) ?_;simp -dsimp -implicitDefEqProofs only[go_sem,e0,uq9,bk];((with_reducible and_intros);all_goals try first|omega|exact rfl);all_goals try simp -dsimp -implicitDefEqProofs only[go_sem,dl]
 rw[if_neg hc] at hq ⊢;have e0:(bV d.m d.a d.k != 0)=true:=bne_iff_ne.2 hc;generalize bV d.m d.a d.k=c at*;refine Fn.au 153 [.tmp 6,.tmp 7] func85 (hv:=?_);simp -dsimp -implicitDefEqProofs only[go_sem,w1,uq9,bk];((with_reducible and_intros);all_goals try omega);refine aj.draw mixed rfl ?_;simp -dsimp -implicitDefEqProofs only[go_sem];refine aH hs (by simp[ax,ao,aF]) ?_;simp -dsimp -implicitDefEqProofs only[go_sem];refine aH hq (by simp[ax,ao,aq,aF]) ?_;simp -dsimp -implicitDefEqProofs only[go_sem,e0];all_goals (first|exact rfl|skip)
theorem GW (d:Dk)(hk:kt d=true)(x:lU)(hx:x.length<=1048576):Fn pG 85 [.bo ⟨7,true⟩ [mg d] 0 0,nC [dw,x],aM []] true (· = .aX [eS (b9 [] d (.opens x)).1,eI (b9 [] d (.opens x)).2]):=by
 obtain ⟨hF,ha1,ha2,hk1,hk2⟩:=dkA hk;have hs:=kI d;have hr:=Fn.shared (y3 d.m x hx);have w1:decide (dw=[108,111,99,107])=false:=by decide
 have w2:decide (dw=[111,112,101,110,115])=true:=by decide
 simp only[b9];by_cases hc:(kb d.m x).2=0
 . have hkl:(kb d.m x).1.length<=1048576:=by
    unfold kb;split
    . split
      . rw[cZ];exact hx
      simp
    simp
   have hq:=Fn.shared (y6 d.m d.a d.k ha1 ha2 hk1 hk2 (kb d.m x).1 hkl);have hin:=Qs (m:=d.m) (t:=d.a) (ab:=d.k) (c:=(kb d.m x).1);rw[if_pos hc];rw[hc] at hr;have e0:((0:Int) != 0)=false:=rfl;generalize (kb d.m x).1=K at*;generalize Cj d.m d.a d.k K=D at*;obtain ⟨D1,D2⟩:=D;simp only at hq hin ⊢;by_cases h2:D2=0
   . rw[if_pos h2];subst h2;have hl:=I4 D1 (by omega) hin.2;refine Fn.au 153 [.tmp 6,.tmp 7] func85 (hv:=?_);simp -dsimp -implicitDefEqProofs only[go_sem,w1,w2,uq9,bk];((with_reducible and_intros);all_goals try omega);refine aj.draw mixed rfl ?_;simp -dsimp -implicitDefEqProofs only[go_sem];((with_reducible and_intros);all_goals try omega);refine aH hr (by simp[ax,ao,aq,aF]) ?_;simp -dsimp -implicitDefEqProofs only[go_sem,e0];((with_reducible and_intros);all_goals try exact rfl);refine aj.draw mixed rfl ?_;simp -dsimp -implicitDefEqProofs only[go_sem];refine aH hs (by simp[ax,ao,aF]) ?_;simp -dsimp -implicitDefEqProofs only[go_sem];refine aH hq (by simp[ax,ao,aq,aF]) ?_;simp -dsimp -implicitDefEqProofs only[go_sem,e0];((with_reducible and_intros);all_goals try exact rfl);refine aa hl ?_;simp -dsimp -implicitDefEqProofs only[go_sem]
   rw[if_neg h2];have e1:(D2 != 0)=true:=bne_iff_ne.2 h2;refine Fn.au 153 [.tmp 6,.tmp 7] func85 (hv:=?_);simp -dsimp -implicitDefEqProofs only[go_sem,w1,w2,uq9,bk];((with_reducible and_intros);all_goals try omega);refine aj.draw mixed rfl ?_;simp -dsimp -implicitDefEqProofs only[go_sem];((with_reducible and_intros);all_goals try omega);refine aH hr (by simp[ax,ao,aq,aF]) ?_;simp -dsimp -implicitDefEqProofs only[go_sem,e0];((with_reducible and_intros);all_goals try exact rfl);refine aj.draw mixed rfl ?_;simp -dsimp -implicitDefEqProofs only[go_sem];refine aH hs (by simp[ax,ao,aF]) ?_;simp -dsimp -implicitDefEqProofs only[go_sem];refine aH hq (by simp[ax,ao,aq,aF]) ?_;simp -dsimp -implicitDefEqProofs only[go_sem,e1];all_goals (first|exact rfl|skip)
 rw[if_neg hc];have e0:((kb d.m x).2 != 0)=true:=bne_iff_ne.2 hc;generalize kb d.m x=K at*;refine Fn.au 153 [.tmp 6,.tmp 7] func85 (hv:=?_);simp -dsimp -implicitDefEqProofs only[go_sem,w1,w2,uq9,bk];((with_reducible and_intros);all_goals try omega);refine aj.draw mixed rfl ?_;simp -dsimp -implicitDefEqProofs only[go_sem];((with_reducible and_intros);all_goals try omega);refine aH hr (by simp[ax,ao,aq,aF]) ?_;simp -dsimp -implicitDefEqProofs only[go_sem,e0];all_goals try exact rfl
theorem GX (d:Dk)(hk:kt d=true):Fn pG 85 [.bo ⟨7,true⟩ [mg d] 0 0,nC [eu],aM []] true (· = .aX [eS (b9 [] d .pD).1,eI (b9 [] d .pD).2]):=by
 obtain ⟨hF,ha1,ha2,hk1,hk2⟩:=dkA hk;have hs:=kI d;have hq:Fn pG 123 [jR d.m d.a,aQ d.k,eI 1] false (· = .aX [aQ (zd d.m d.a d.k),eI (if bh d.m d.a d.k=true then 0 else 1)]):=Fn.uh (Fn.mono (Qy d.m d.a d.k ha1 ha2 hk1 hk2) λx hx=>⟨_,hx,rfl⟩);have hw:=λg=>GV (m:=d.m) (t:=d.a) (ab:=d.k) (g:=g);have hkt:=λg hg=>MP d.m g hg;have w1:decide (eu=[108,111,99,107])=false:=by decide
 have w2:decide (eu=[111,112,101,110,115])=false:=by decide
 have w3:decide (eu=[119,111,114,115,116])=true:=by decide
 simp only[b9];generalize zd d.m d.a d.k=L at*;rcases L with _|⟨g,L⟩
 . have e1:(((([]:lL).length:Nat):Int)==0)=true:=rfl;rcases hdz:((if bh d.m d.a d.k=true then (0:Int) else 1) != 0) with _|_
   . generalize (if bh d.m d.a d.k=true then (0:Int) else 1)=c at*;refine Fn.au 153 [.tmp 6,.tmp 7] func85 (hv:=?_);simp -dsimp -implicitDefEqProofs only[go_sem,w1,w2,w3,uq9,bk];((with_reducible and_intros);all_goals try omega);refine aj.draw mixed rfl ?_;simp -dsimp -implicitDefEqProofs only[go_sem];refine aH hs (by simp[ax,ao,aF]) ?_;simp -dsimp -implicitDefEqProofs only[go_sem];refine aH hq (by simp[ax,ao,aq,aF]) ?_;simp -dsimp -implicitDefEqProofs only[go_sem,hdz,bk,uq7];all_goals try exact rfl
   generalize (if bh d.m d.a d.k=true then (0:Int) else 1)=c at*;refine Fn.au 153 [.tmp 6,.tmp 7] func85 (hv:=?_);simp -dsimp -implicitDefEqProofs only[go_sem,w1,w2,w3,uq9,bk];((with_reducible and_intros);all_goals try omega);refine aj.draw mixed rfl ?_;simp -dsimp -implicitDefEqProofs only[go_sem];refine aH hs (by simp[ax,ao,aF]) ?_;simp -dsimp -implicitDefEqProofs only[go_sem];refine aH hq (by simp[ax,ao,aq,aF]) ?_;simp -dsimp -implicitDefEqProofs only[go_sem,hdz,bk];all_goals try exact rfl
 obtain ⟨g1,g2,g3⟩:=hw g (by simp);have gl:g.length<=1048576:=by have:=(gC (m:=d.m) (c:=g) (beq_iff_eq.2 g3)).1;have:=hF.num;omega
 have hkg:=hkt g gl;have ek:Xo d.m g=(lf g,0):=by rw[Xo,if_pos g2,if_pos g3]
 rw[ek] at hkg;rw[if_pos g1] at hq ⊢;have e0:((0:Int) != 0)=false:=rfl;have e1:((((L.length+1:Nat):Nat):Int)==0)=false:=by rw[beq_eq_false_iff_ne];omega
 clear hw hkt;refine Fn.au 153 [.tmp 6,.tmp 7] func85 (hv:=?_);simp -dsimp -implicitDefEqProofs only[go_sem,w1,w2,w3,uq9,bk];((with_reducible and_intros);all_goals try omega);refine aj.draw mixed rfl ?_;simp -dsimp -implicitDefEqProofs only[go_sem];refine aH hs (by simp[ax,ao,aF]) ?_;simp -dsimp -implicitDefEqProofs only[go_sem];refine aH hq (by simp[ax,ao,aq,aF]) ?_;simp -dsimp -implicitDefEqProofs only[go_sem,e0,e1,uq9,uq5];((with_reducible and_intros);all_goals try exact rfl);refine aj.draw mixed rfl ?_;simp -dsimp -implicitDefEqProofs only[go_sem,uq9,uq5];((with_reducible and_intros);all_goals try omega);refine an hkg ?_;simp -dsimp -implicitDefEqProofs only[go_sem];all_goals (first|exact rfl|skip)
theorem GY (d:Dk)(hk:kt d=true)(x y:lU)(n s:Nat)(hn:n<=9999999999999/\s<=9999999999999):Fn pG 85 [.bo ⟨7,true⟩ [mg d] 0 0,nC [dZ,x,y],aM [n,s]] true (· = .aX [eS (b9 [] d (.pE n s)).1,eI (b9 [] d (.pE n s)).2]):=by
 obtain ⟨hF,ha1,ha2,hk1,hk2⟩:=dkA hk;have w1:decide (dZ=[108,111,99,107])=false:=by decide
 have w2:decide (dZ=[111,112,101,110,115])=false:=by decide
 have w3:decide (dZ=[119,111,114,115,116])=false:=by decide
 have w4:decide (dZ=[115,116,97,109,112])=true:=by decide
 simp only[b9];by_cases hl:n<d.k.length
 . rw [if_pos hl];have gn:=get_some hl;have ek:d.k.getD n []=d.k[n]:=(by rw [List.getD_eq_getElem?_getD,gn];rfl);rw [ek];have hq:=I' d.m d.k[n] 0 (s:Int) (hk2 _ (uq4 hl));have dl:decide ((n:Int)≥(d.k.length:Int))=false:=dF (by omega);generalize j5 d.m d.k[n] 0 (s:Int)=T at*;generalize d.k[n]=K at*;refine Fn.au 153 [.tmp 6,.tmp 7] func85 (hv:= ?_);simp -dsimp -implicitDefEqProofs only [go_sem,w1,w2,w3,w4,uq9,bk];((with_reducible and_intros);all_goals try omega);refine aj.draw mixed rfl ?_;simp -dsimp -implicitDefEqProofs only [go_sem];((with_reducible and_intros);all_goals try first|omega|exact rfl);all_goals try simp -dsimp -implicitDefEqProofs only [go_sem,dl]
   refine aj.draw mixed rfl ?_;simp -dsimp -implicitDefEqProofs only[go_sem,gn];((with_reducible and_intros);all_goals try omega);refine an hq ?_;simp -dsimp -implicitDefEqProofs only[go_sem];all_goals (first|exact rfl|skip)
 rw[if_neg hl];have dl:decide ((n:Int)≥(d.k.length:Int))=true:=dT (by omega);refine Fn.au 153 [.tmp 6,.tmp 7] func85 (hv:=?_);simp -dsimp -implicitDefEqProofs only[go_sem,w1,w2,w3,w4,uq9,bk];((with_reducible and_intros);all_goals try omega);refine aj.draw mixed rfl ?_;simp -dsimp -implicitDefEqProofs only[go_sem];((with_reducible and_intros);all_goals try first|omega|exact rfl);all_goals try simp -dsimp -implicitDefEqProofs only[go_sem,dl]
theorem Cy {α β:Type}(f:α->β)(xs:List α)(n:Nat):(xs.map f).eraseIdx n=(xs.eraseIdx n).map f:=by
 apply List.ext_getElem?
 intro p;simp only[List.getElem?_eraseIdx,List.getElem?_map];split<;>rfl
theorem GZ (d:Dk)(hk:kt d=true)(x1 x2 x3 x4 x5:lU)(n1 n2 n3 n4 n5:Nat)(va vk:Nat):fN pG 84 (zV va vk d) [.ptr 1900000006 0 0 0,nC [gT,x1,x2,x3,x4,x5],aM [n1,n2,n3,n4,n5]] (λr m'=>r=eI (dU d (.lq ⟨n1,n2,n3,n4,n5⟩)).2/\m'=zV (va+1) (vk+1) (dU d (.lq ⟨n1,n2,n3,n4,n5⟩)).1):=by
 refine fN.dk (fN.tS 109 [.tmp 6] func84 rfl rfl rfl rfl rfl (oT rfl) (by decide) ?_);have hm:=eV ⟨n1,n2,n3,n4,n5⟩;have w1:decide (gT=[109,97,107,101,114])=true:=by decide
 simp only[dU];rw[gU];rcases lz:aU ⟨n1,n2,n3,n4,n5⟩ with _|_
 . rw[lz] at hm;rw[if_neg (by simp)];simp -dsimp -implicitDefEqProofs only[go_sem,w1,uq6,uq9,bk];((with_reducible and_intros);all_goals try omega);refine aj.draw mixed rfl ?_;simp -dsimp -implicitDefEqProofs only[go_sem];((with_reducible and_intros);all_goals try first|omega|exact rfl);refine aa hm ?_;simp -dsimp -implicitDefEqProofs only[go_sem];((refine pF (oa:=some 1900000500) (oc:=some 1900000501) rfl ?_ (d_.mk ?_ rfl) (d_.mk ?_ rfl) ?_ ?_ ?_ ⟨rfl,rfl,?_,?_⟩);all_goals first|exact rfl|(simp;done)|skip)
 rw[lz] at hm;rw[if_pos rfl];simp -dsimp -implicitDefEqProofs only[go_sem,w1,uq6,uq9,bk];((with_reducible and_intros);all_goals try omega);refine aj.draw mixed rfl ?_;simp -dsimp -implicitDefEqProofs only[go_sem];((with_reducible and_intros);all_goals try first|omega|exact rfl);refine aa hm ?_;simp -dsimp -implicitDefEqProofs only[go_sem];refine pF (oa:=none) (oc:=none) rfl ?_ .nil .nil ?_ ?_ ?_ ⟨rfl,rfl,?_,?_⟩;all_goals first|exact rfl|(simp;done)|skip
theorem Nh (d:Dk)(hk:kt d=true)(x y:lU)(hx:x.length<=1000000)(hy:y.length<=1000000)(va vk:Nat):fN pG 84 (zV va vk d) [.ptr 1900000006 0 0 0,nC [lh,x,y],aM []] (λr m'=>r=eI (dU d (.key x y)).2/\m'=zV (va+1) (vk+1) (dU d (.key x y)).1):=by
 refine fN.dk (fN.tS 109 [.tmp 6] func84 rfl rfl rfl rfl rfl (oT rfl) (by decide) ?_);have hq:=QO d hk x y hx hy va vk;have w1:decide (lh=[109,97,107,101,114])=false:=by decide
 have w2:decide (lh=[107,101,121])=true:=by decide
 simp only[dU];generalize wa d x y=q at*;rw[gU];simp -dsimp -implicitDefEqProofs only[go_sem,w1,w2,uq6,uq9,bk];((with_reducible and_intros);all_goals try omega);refine aj.lB 7 mixed rfl ?_;simp -dsimp -implicitDefEqProofs only[ba,bp,uq2,uq3];simp -dsimp -implicitDefEqProofs only[go_sem];((with_reducible and_intros);all_goals try first|omega|exact rfl);refine cU hq ⟨⟨?_,?_⟩,?_,?_⟩ ?_
 . simp -dsimp -implicitDefEqProofs only[go_sem,kX]
 . simp -dsimp -implicitDefEqProofs only[go_sem,gU,uq6];all_goals try (simp;done)
 . simp -dsimp -implicitDefEqProofs only[go_sem,gU,uq6]
 . simp -dsimp -implicitDefEqProofs only[go_sem,kX];all_goals try (simp;done)
 rintro r m' ⟨hr,hm'⟩;rw[hr,hm'];simp only[zV,gU];simp -dsimp -implicitDefEqProofs only[go_sem,uq6];((refine pF (oa:=some 1900000500) (oc:=some 1900000501) rfl ?_ (d_.mk ?_ rfl) (d_.mk ?_ rfl) ?_ ?_ ?_ ⟨rfl,rfl,?_,?_⟩);all_goals first|exact rfl|(simp;done)|skip)
theorem Jp (d:Dk)(hk:kt d=true)(x:lU)(n:Nat)(hn:n<=9999999999999)(va vk:Nat):fN pG 84 (zV va vk d) [.ptr 1900000006 0 0 0,nC [iH,x],aM [n]] (λr m'=>r=eI (dU d (.drop n)).2/\m'=zV (va+1) (vk+1) (dU d (.drop n)).1):=by
 refine fN.dk (fN.tS 109 [.tmp 6] func84 rfl rfl rfl rfl rfl (oT rfl) (by decide) ?_);obtain ⟨hF,ha1,ha2,hk1,hk2⟩:=dkA hk;have hi:=kY (n:Int) 0 ((d.k.length:Int)-1);have hal:=hF.al;have hkl:=hF.kl;have hl1:=fE d.a (by omega) hF.To;have hl2:=fE d.k (by omega) hF.V1;have w1:decide (iH=[109,97,107,101,114])=false:=by decide
 have w2:decide (iH=[107,101,121])=false:=by decide
 have w3:decide (iH=[100,114,111,112])=true:=by decide
 simp only[dU];rw[gU];have t1:(d.a.map aM).take d.a.length=d.a.map aM:=a_ (by simp);have t2:(d.k.map aM).take d.k.length=d.k.map aM:=a_ (by simp);by_cases hl:n<d.k.length
 . rw [show bA (n:Int) 0 ((d.k.length:Int)-1)=true by simp only [bA,uq0,decide_eq_true_eq];omega] at hi;rw [if_pos hl];simp -dsimp -implicitDefEqProofs only [go_sem,w1,w2,w3,uq6,uq9,bk];((with_reducible and_intros);all_goals try omega);refine aj.draw mixed rfl ?_;simp -dsimp -implicitDefEqProofs only [go_sem];((with_reducible and_intros);all_goals try first|omega|(refine ⟨?_,?_⟩<;>omega));refine an hi ?_;simp -dsimp -implicitDefEqProofs only [go_sem];((with_reducible and_intros);all_goals try first|omega|exact rfl);refine aj.draw mixed rfl ?_;simp -dsimp -implicitDefEqProofs only [go_sem,t1];refine an hl1 ?_;simp -dsimp -implicitDefEqProofs only [go_sem,uq6];((with_reducible and_intros);all_goals try ((refine ⟨?_,?_⟩<;>omega)));refine yz (sh:=⟨1,false⟩) (zs:=[.slice none 0 0]) ⟨Tryz.f114,_,func114,by decide,rfl⟩ rfl (by simp) (by simp;omega) (by decide) rfl (by intro u hu;rw [dE] at hu;subst hu;rfl) (λw b cap cs e hb hcs b_ hle h1=> ?_) ?_
   . have h9:=vB w b cap n (n+1) (d.a.map aM).length cs e hb hcs b_ rfl (by simp;omega) hle h1;simpa only[Nat.mul_one] using h9
   rw[Cy,uq6];simp -dsimp -implicitDefEqProofs only[go_sem];refine an hl2 ?_;simp -dsimp -implicitDefEqProofs only[go_sem,uq6];((with_reducible and_intros);all_goals try ((refine ⟨?_,?_⟩<;>omega)));refine yz (sh:=⟨1,false⟩) (zs:=[.slice none 0 0]) ⟨Tryz.f114,_,func114,by decide,rfl⟩ rfl (by simp) (by simp;omega) (by decide) rfl (by intro u hu;rw[dE] at hu;subst hu;rfl) (λw b cap cs e hb hcs b_ hle h1=>?_) ?_
   . have h9:=vB w b cap n (n+1) (d.k.map aM).length cs e hb hcs b_ rfl (by simp;omega) hle h1;simpa only[Nat.mul_one] using h9
   rw[Cy,uq6];simp -dsimp -implicitDefEqProofs only[go_sem];((with_reducible and_intros);all_goals try exact rfl);have el1:(d.a.eraseIdx n).length=d.a.length-1:=(by rw[List.length_eraseIdx,if_pos (by omega)]);have el2:(d.k.eraseIdx n).length=d.k.length-1:=(by rw[List.length_eraseIdx,if_pos (by omega)]);((refine pF (oa:=some 73000) (oc:=some 82000) rfl ?_ (d_.mk ?_ rfl) (d_.mk ?_ rfl) ?_ ?_ ?_ ⟨rfl,rfl,?_,?_⟩);all_goals first|exact rfl|(simp;done)|(rw[uq6];omega)|skip)
 rw[show bA (n:Int) 0 ((d.k.length:Int)-1)=false by rw[Bool.eq_false_iff];simp only[bA,ne_eq,uq0,decide_eq_true_eq];omega] at hi;rw[if_neg hl];simp -dsimp -implicitDefEqProofs only[go_sem,w1,w2,w3,uq6,uq9,bk];((with_reducible and_intros);all_goals try omega);refine aj.draw mixed rfl ?_;simp -dsimp -implicitDefEqProofs only[go_sem];((with_reducible and_intros);all_goals try first|omega|(refine ⟨?_,?_⟩<;>omega));refine an hi ?_;simp -dsimp -implicitDefEqProofs only[go_sem];((with_reducible and_intros);all_goals try exact rfl);((refine pF (oa:=some 1900000500) (oc:=some 1900000501) rfl ?_ (d_.mk ?_ rfl) (d_.mk ?_ rfl) ?_ ?_ ?_ ⟨rfl,rfl,?_,?_⟩);all_goals first|exact rfl|(simp;done)|skip)
theorem Jq (d:Dk)(hk:kt d=true)(x:lU)(n:Nat)(hn:n<=9999999999999)(va vk:Nat):fN pG 84 (zV va vk d) [.ptr 1900000006 0 0 0,nC [gX,x],aM [n]] (λr m'=>r=eI (dU d (.find n)).2/\m'=zV (va+1) (vk+1) (dU d (.find n)).1):=by
 refine fN.dk (fN.tS 109 [.tmp 6] func84 rfl rfl rfl rfl rfl (oT rfl) (by decide) ?_);obtain ⟨hF,ha1,ha2,hk1,hk2⟩:=dkA hk;have hal:=hF.al;have hq:=QK d.m d.a n ha1 ha2;have w1:decide (gX=[109,97,107,101,114])=false:=by decide
 have w2:decide (gX=[107,101,121])=false:=by decide
 have w3:decide (gX=[100,114,111,112])=false:=by decide
 have w4:decide (gX=[102,105,110,100])=true:=by decide
 simp only[dU];rw[gU];have t1:(d.a.map aM).take d.a.length=d.a.map aM:=a_ (by simp);generalize gO d.m d.a n=q at*;by_cases hc:q.2.2=0
 . rw [if_pos hc];rw [hc] at hq;have e0:((0:Int) != 0)=false:=rfl;simp -dsimp -implicitDefEqProofs only [go_sem,w1,w2,w3,w4,uq6,uq9,bk];((with_reducible and_intros);all_goals try omega);refine aj.draw mixed rfl ?_;simp -dsimp -implicitDefEqProofs only [go_sem];refine vu 6 ?_ rfl ?_
   . exact λus h1 h2=>Cx us h1 h2
   simp -dsimp -implicitDefEqProofs only[go_sem,ba,bp];((with_reducible and_intros);all_goals try omega);refine an hq ?_;simp -dsimp -implicitDefEqProofs only[go_sem,e0];((with_reducible and_intros);all_goals try exact rfl);((refine pF (oa:=some 1900000500) (oc:=some 99000) rfl ?_ (d_.mk ?_ rfl) (d_.mk ?_ rfl) ?_ ?_ ?_ ⟨rfl,rfl,?_,?_⟩);all_goals first|exact rfl|(simp;done)|skip)
 rw[if_neg hc];have e0:(q.2.2 != 0)=true:=bne_iff_ne.2 hc;simp -dsimp -implicitDefEqProofs only[go_sem,w1,w2,w3,w4,uq6,uq9,bk];((with_reducible and_intros);all_goals try omega);refine aj.draw mixed rfl ?_;simp -dsimp -implicitDefEqProofs only[go_sem];refine vu 6 ?_ rfl ?_
 . exact λus h1 h2=>Cx us h1 h2
 simp -dsimp -implicitDefEqProofs only[go_sem,ba,bp];((with_reducible and_intros);all_goals try omega);refine an hq ?_;simp -dsimp -implicitDefEqProofs only[go_sem,e0];((with_reducible and_intros);all_goals try exact rfl);((refine pF (oa:=some 1900000500) (oc:=some 1900000501) rfl ?_ (d_.mk ?_ rfl) (d_.mk ?_ rfl) ?_ ?_ ?_ ⟨rfl,rfl,?_,?_⟩);all_goals first|exact rfl|(simp;done)|skip)
theorem Jr (d:Dk)(hk:kt d=true):Fn pG 80 [mg d,nC [iY],aM []] true (· = .aX [eS (b9 [45] d .Nz).1,eI (b9 [45] d .Nz).2]):=by
 obtain ⟨hF,ha1,ha2,hk1,hk2⟩:=dkA hk;have hq:=uk d.m d.a d.k ha1 ha2 hk1 hk2;have hn:=Cw hk;have ht:=cC ((mV d.m d.a d.k).length:Int) (by omega);have w1:decide (iY=[102,97,108,115,101])=true:=by decide
 simp only[b9];generalize mV d.m d.a d.k=L at*;generalize bV d.m d.a d.k=c at*;refine Fn.au 164 [.tmp 6,.tmp 7] func80 (hv:=?_);simp -dsimp -implicitDefEqProofs only[go_sem,w1,uq9,bk];((with_reducible and_intros);all_goals try omega);refine av hq (by simp[ax,ao,aq,aF]) ?_;simp -dsimp -implicitDefEqProofs only[go_sem];refine aa ht ?_;simp -dsimp -implicitDefEqProofs only[go_sem]
theorem zY (d:Dk)(hk:kt d=true):Fn pG 80 [mg d,nC [fe],aM []] true (· = .aX [eS (b9 [45] d .cj).1,eI (b9 [45] d .cj).2]):=by
 obtain ⟨hF,ha1,ha2,hk1,hk2⟩:=dkA hk;have hq:=y_ d.m d.a d.k ha1 ha2 hk1 hk2;have hn:=rF hF.oE d.a d.k;have hb:0<=(if bh d.m d.a d.k=true then ((cj d.m d.a d.k).length:Int) else 0)/\(if bh d.m d.a d.k=true then ((cj d.m d.a d.k).length:Int) else 0)<=262144:=by split<;>omega
 have ht:=cC (if bh d.m d.a d.k=true then ((cj d.m d.a d.k).length:Int) else 0) (by omega);have w1:decide (fe=[102,97,108,115,101])=false:=by decide
 have w2:decide (fe=[103,104,111,115,116,115])=true:=by decide
 simp only[b9];generalize (if bh d.m d.a d.k=true then ((cj d.m d.a d.k).length:Int) else 0)=L at*;generalize (if bh d.m d.a d.k=true then (0:Int) else 1)=c at*;refine Fn.au 164 [.tmp 6,.tmp 7] func80 (hv:=?_);simp -dsimp -implicitDefEqProofs only[go_sem,w1,w2,uq9,bk];((with_reducible and_intros);all_goals try omega);refine aa hq ?_;simp -dsimp -implicitDefEqProofs only[go_sem];refine aa ht ?_;simp -dsimp -implicitDefEqProofs only[go_sem]
theorem DA (d:Dk)(hk:kt d=true):Fn pG 80 [mg d,nC [fT],aM []] true (· = .aX [eS (b9 [45] d .count).1,eI (b9 [45] d .count).2]):=by
 obtain ⟨hF,ha1,ha2,hk1,hk2⟩:=dkA hk;have hq:=Dp d.m;have hn:=rD hF.oE;have hb:0<=(if aU d.m=true then iK d.m else 0)/\(if aU d.m=true then iK d.m else 0)<=262144:=by split<;>omega
 have ht:=cC (if aU d.m=true then iK d.m else 0) (by omega);have w1:decide (fT=[102,97,108,115,101])=false:=by decide
 have w2:decide (fT=[103,104,111,115,116,115])=false:=by decide
 have w3:decide (fT=[99,111,117,110,116])=true:=by decide
 simp only[b9];generalize (if aU d.m=true then iK d.m else 0)=L at*;generalize (if aU d.m=true then (0:Int) else 1)=c at*;refine Fn.au 164 [.tmp 6,.tmp 7] func80 (hv:=?_);simp -dsimp -implicitDefEqProofs only[go_sem,w1,w2,w3,uq9,bk];((with_reducible and_intros);all_goals try omega);refine aa hq ?_;simp -dsimp -implicitDefEqProofs only[go_sem];refine aa ht ?_;simp -dsimp -implicitDefEqProofs only[go_sem]
theorem zZ (d:Dk)(hk:kt d=true):Fn pG 80 [mg d,nC [dr],aM []] true (· = .aX [eS (b9 [45] d .j8).1,eI (b9 [45] d .j8).2]):=by
 obtain ⟨hF,ha1,ha2,hk1,hk2⟩:=dkA hk;have hq:=v_ d.m d.a d.k ha1 ha2 hk1 hk2;have hb:0<=(if bh d.m d.a d.k=true then oz d.m d.a d.k else 0)/\(if bh d.m d.a d.k=true then oz d.m d.a d.k else 0)<=1000000:=by
  split
  . rename_i h;exact Kw h
  omega
 have ht:=cC (if bh d.m d.a d.k=true then oz d.m d.a d.k else 0) (by omega);have w1:decide (dr=[102,97,108,115,101])=false:=by decide
 have w2:decide (dr=[103,104,111,115,116,115])=false:=by decide
 have w3:decide (dr=[99,111,117,110,116])=false:=by decide
 have w4:decide (dr=[119,97,102,101,114,115])=true:=by decide
 simp only[b9];generalize (if bh d.m d.a d.k=true then oz d.m d.a d.k else 0)=L at*;generalize (if bh d.m d.a d.k=true then (0:Int) else 1)=c at*;refine Fn.au 164 [.tmp 6,.tmp 7] func80 (hv:=?_);simp -dsimp -implicitDefEqProofs only[go_sem,w1,w2,w3,w4,uq9,bk];((with_reducible and_intros);all_goals try omega);refine aa hq ?_;simp -dsimp -implicitDefEqProofs only[go_sem];refine aa ht ?_;simp -dsimp -implicitDefEqProofs only[go_sem]
theorem G0 (d:Dk)(hk:kt d=true)(x:lU)(n:Nat)(hn:n<=9999999999999):Fn pG 80 [mg d,nC [je,x],aM [n]] true (· = .aX [eS (b9 [45] d (.lock n)).1,eI (b9 [45] d (.lock n)).2]):=by
 obtain ⟨hF,ha1,ha2,hk1,hk2⟩:=dkA hk;have hq:=Jc d.m d.a d.k ha1 ha2 hk1 hk2;have w1:decide (je=[102,97,108,115,101])=false:=by decide
 have w2:decide (je=[103,104,111,115,116,115])=false:=by decide
 have w3:decide (je=[99,111,117,110,116])=false:=by decide
 have w4:decide (je=[119,97,102,101,114,115])=false:=by decide
 have w5:decide (je=[108,111,99,107])=true:=by decide
 simp only[b9];by_cases hc:bV d.m d.a d.k=0
 . obtain ⟨h1,h2⟩:=im hc;rw [if_pos hc] at hq ⊢;rw [hc] at hq;have e0:((0:Int) != 0)=false:=rfl;have hll:=dP d.m d.a d.k (d.a.getD 0 []).length;by_cases hl:n<(d.a.getD 0 []).length
   . rw [if_pos hl];have hg:=jT d.m d.a d.k hl;have h8:∀x∈bQ d.m d.a d.k n,x.length<=8:=λx hx=>by
      have:=iF d.m d.a d.k n x hx;have:=hF.num;omega
     have hp:=GK d.m (bQ d.m d.a d.k n) hF.oE (zg h1 h2 hl) h8;have dl:decide ((n:Int)≥((d.a.getD 0 []).length:Int))=false:=dF (by omega);generalize qk (pins d.m (bQ d.m d.a d.k n))=T at*;have hlx:n<(ay d.m d.a d.k (d.a.getD 0 []).length).length:=(by omega);generalize bQ d.m d.a d.k n=lk at*;generalize ay d.m d.a d.k (d.a.getD 0 []).length=LL at*;generalize (d.a.getD 0 []).length=D at*;subst hll;refine Fn.au 164 [.tmp 6,.tmp 7] func80 (hv:=?_);simp -dsimp -implicitDefEqProofs only[go_sem,w1,w2,w3,w4,w5,uq9,bk];((with_reducible and_intros);all_goals try omega);refine av hq (by simp[ax,ao,aq,aF]) ?_;simp -dsimp -implicitDefEqProofs only[go_sem,e0,uq9,bk];((with_reducible and_intros);all_goals try omega);all_goals try simp -dsimp -implicitDefEqProofs only[go_sem,dl]
     refine aj.draw mixed rfl ?_;simp -dsimp -implicitDefEqProofs only[go_sem,hg,uq9,bk];((with_reducible and_intros);all_goals try omega);refine an hp ?_;simp -dsimp -implicitDefEqProofs only[go_sem];all_goals (first|exact rfl|skip)
   rw[if_neg hl];have dl:decide ((n:Int)≥((d.a.getD 0 []).length:Int))=true:=dT (by omega);generalize ay d.m d.a d.k (d.a.getD 0 []).length=LL at*;generalize (d.a.getD 0 []).length=D at*;subst hll;refine Fn.au 164 [.tmp 6,.tmp 7] func80 (hv:=?_);simp -dsimp -implicitDefEqProofs only[go_sem,w1,w2,w3,w4,w5,uq9,bk];((with_reducible and_intros);all_goals try omega);refine av hq (by simp[ax,ao,aq,aF]) ?_;simp -dsimp -implicitDefEqProofs only[go_sem,e0,uq9,bk];((with_reducible and_intros);all_goals try omega);all_goals try simp -dsimp -implicitDefEqProofs only[go_sem,dl]
 rw[if_neg hc] at hq ⊢;have e0:(bV d.m d.a d.k != 0)=true:=bne_iff_ne.2 hc;generalize bV d.m d.a d.k=c at*;refine Fn.au 164 [.tmp 6,.tmp 7] func80 (hv:=?_);simp -dsimp -implicitDefEqProofs only[go_sem,w1,w2,w3,w4,w5,uq9,bk];((with_reducible and_intros);all_goals try omega);refine av hq (by simp[ax,ao,aq,aF]) ?_;simp -dsimp -implicitDefEqProofs only[go_sem,e0]
theorem DB (d:Dk)(hk:kt d=true)(x:lU)(hx:x.length<=1048576):Fn pG 80 [mg d,nC [dw,x],aM []] true (· = .aX [eS (b9 [45] d (.opens x)).1,eI (b9 [45] d (.opens x)).2]):=by
 obtain ⟨hF,ha1,ha2,hk1,hk2⟩:=dkA hk;have hr:=Fn.shared (y4 d.m x hx);have w1:decide (dw=[102,97,108,115,101])=false:=by decide
 have w2:decide (dw=[103,104,111,115,116,115])=false:=by decide
 have w3:decide (dw=[99,111,117,110,116])=false:=by decide
 have w4:decide (dw=[119,97,102,101,114,115])=false:=by decide
 have w5:decide (dw=[108,111,99,107])=false:=by decide
 have w6:decide (dw=[111,112,101,110,115])=true:=by decide
 simp only[b9];by_cases hc:(kb d.m x).2=0
 . have hkl:(kb d.m x).1.length<=1048576:=by
    unfold kb;split
    . split
      . rw[cZ];exact hx
      simp
    simp
   have hq:=Fn.shared (y8 d.m d.a d.k ha1 ha2 hk1 hk2 (kb d.m x).1 hkl);have hin:=Qs (m:=d.m) (t:=d.a) (ab:=d.k) (c:=(kb d.m x).1);have ju:(Cj d.m d.a d.k (kb d.m x).1).2≠0->(Cj d.m d.a d.k (kb d.m x).1).1=[]:=by
    unfold Cj;split
    . split
      . intro h;exact absurd rfl h
      intro _;rfl
    intro _;rfl
   rw [if_pos hc];rw [hc] at hr;have e0:((0:Int) != 0)=false:=rfl;generalize (kb d.m x).1=K at*;generalize Cj d.m d.a d.k K=D at*;obtain ⟨D1,D2⟩:=D;simp only at hq hin ju ⊢;have hl:=MN D1 (by omega) hin.2;have hR:(if D2=0 then (y2 D1,(0:Int)) else ([45],D2))=(y2 D1,D2):=by
    split
    . rename_i h;rw[h]
    rename_i h;rw[ju h];rfl
   rw[hR];clear hR ju;refine Fn.au 164 [.tmp 6,.tmp 7] func80 (hv:=?_);simp -dsimp -implicitDefEqProofs only[go_sem,w1,w2,w3,w4,w5,w6,uq9,bk];((with_reducible and_intros);all_goals try omega);refine aj.draw mixed rfl ?_;simp -dsimp -implicitDefEqProofs only[go_sem];((with_reducible and_intros);all_goals try omega);refine aH hr (by simp[ax,ao,aq,aF]) ?_;simp -dsimp -implicitDefEqProofs only[go_sem,e0];((with_reducible and_intros);all_goals try exact rfl);refine av hq (by simp[ax,ao,aq,aF]) ?_;simp -dsimp -implicitDefEqProofs only[go_sem];refine aa hl ?_;simp -dsimp -implicitDefEqProofs only[go_sem]
 rw[if_neg hc];have e0:((kb d.m x).2 != 0)=true:=bne_iff_ne.2 hc;generalize kb d.m x=K at*;refine Fn.au 164 [.tmp 6,.tmp 7] func80 (hv:=?_);simp -dsimp -implicitDefEqProofs only[go_sem,w1,w2,w3,w4,w5,w6,uq9,bk];((with_reducible and_intros);all_goals try omega);refine aj.draw mixed rfl ?_;simp -dsimp -implicitDefEqProofs only[go_sem];((with_reducible and_intros);all_goals try omega);refine aH hr (by simp[ax,ao,aq,aF]) ?_;simp -dsimp -implicitDefEqProofs only[go_sem,e0];all_goals try exact rfl
theorem DC (d:Dk)(hk:kt d=true):Fn pG 80 [mg d,nC [eu],aM []] true (· = .aX [eS (b9 [45] d .pD).1,eI (b9 [45] d .pD).2]):=by
 obtain ⟨hF,ha1,ha2,hk1,hk2⟩:=dkA hk;have hq:Fn pG 106 [jR d.m d.a,aQ d.k,eI 1] false (· = .aX [aQ (zd d.m d.a d.k),eI (if bh d.m d.a d.k=true then 0 else 1)]):=Fn.uh (Fn.mono (Qz d.m d.a d.k ha1 ha2 hk1 hk2) λx hx=>⟨_,hx,rfl⟩);have hw:=λg=>GV (m:=d.m) (t:=d.a) (ab:=d.k) (g:=g);have hkt:=λg hg hx=>qc g hg hx;have w1:decide (eu=[102,97,108,115,101])=false:=by decide
 have w2:decide (eu=[103,104,111,115,116,115])=false:=by decide
 have w3:decide (eu=[99,111,117,110,116])=false:=by decide
 have w4:decide (eu=[119,97,102,101,114,115])=false:=by decide
 have w5:decide (eu=[108,111,99,107])=false:=by decide
 have w6:decide (eu=[111,112,101,110,115])=false:=by decide
 have w7:decide (eu=[119,111,114,115,116])=true:=by decide
 simp only[b9];generalize zd d.m d.a d.k=L at*;rcases L with _|⟨g,L⟩
 . have e1:(((([]:lL).length:Nat):Int)==0)=true:=rfl;generalize (if bh d.m d.a d.k=true then (0:Int) else 1)=c at*;refine Fn.au 164 [.tmp 6,.tmp 7] func80 (hv:=?_);simp -dsimp -implicitDefEqProofs only[go_sem,w1,w2,w3,w4,w5,w6,w7,uq9,bk];((with_reducible and_intros);all_goals try omega);refine av hq (by simp[ax,ao,aq,aF]) ?_;simp -dsimp -implicitDefEqProofs only[go_sem,bk,uq7]
 obtain ⟨g1,g2,g3⟩:=hw g (by simp);have gk:=gC (m:=d.m) (c:=g) (beq_iff_eq.2 g3);have gl:g.length<=1048576:=by have:=gk.1;have:=hF.num;omega
 have hkg:=hkt g gl λy hy=>by have:=gk.2 y hy;have:=hF.num;omega
 generalize (if bh d.m d.a d.k=true then (0:Int) else 1)=c at*;have e1:((((L.length+1:Nat):Nat):Int)==0)=false:=by rw[beq_eq_false_iff_ne];omega
 clear hw hkt;refine Fn.au 164 [.tmp 6,.tmp 7] func80 (hv:=?_);simp -dsimp -implicitDefEqProofs only[go_sem,w1,w2,w3,w4,w5,w6,w7,uq9,bk];((with_reducible and_intros);all_goals try omega);refine av hq (by simp[ax,ao,aq,aF]) ?_;simp -dsimp -implicitDefEqProofs only[go_sem,e1,uq9,uq5];((with_reducible and_intros);all_goals try omega);refine aa hkg ?_;simp -dsimp -implicitDefEqProofs only[go_sem]
theorem DD (d:Dk)(hk:kt d=true)(x y:lU)(n s:Nat)(hn:n<=9999999999999/\s<=9999999999999):Fn pG 80 [mg d,nC [dZ,x,y],aM [n,s]] true (· = .aX [eS (b9 [45] d (.pE n s)).1,eI (b9 [45] d (.pE n s)).2]):=by
 obtain ⟨hF,ha1,ha2,hk1,hk2⟩:=dkA hk;have w1:decide (dZ=[102,97,108,115,101])=false:=by decide
 have w2:decide (dZ=[103,104,111,115,116,115])=false:=by decide
 have w3:decide (dZ=[99,111,117,110,116])=false:=by decide
 have w4:decide (dZ=[119,97,102,101,114,115])=false:=by decide
 have w5:decide (dZ=[108,111,99,107])=false:=by decide
 have w6:decide (dZ=[111,112,101,110,115])=false:=by decide
 have w7:decide (dZ=[119,111,114,115,116])=false:=by decide
 simp only[b9];by_cases hl:n<d.k.length
 . rw [if_pos hl];have gn:=get_some hl;have ek:d.k.getD n []=d.k[n]:=(by rw [List.getD_eq_getElem?_getD,gn];rfl);rw [ek];have hq:=Ja d.m d.k[n] 0 (s:Int) (hk2 _ (uq4 hl));have dl:decide ((n:Int)≥(d.k.length:Int))=false:=dF (by omega);generalize j5 d.m d.k[n] 0 (s:Int)=T at*;generalize d.k[n]=K at*;refine Fn.au 164 [.tmp 6,.tmp 7] func80 (hv:= ?_);simp -dsimp -implicitDefEqProofs only [go_sem,w1,w2,w3,w4,w5,w6,w7,uq9,bk];((with_reducible and_intros);all_goals try omega);refine aj.draw mixed rfl ?_;simp -dsimp -implicitDefEqProofs only [go_sem];((with_reducible and_intros);all_goals try first|omega|exact rfl);all_goals try simp -dsimp -implicitDefEqProofs only [go_sem,dl]
   refine aj.draw mixed rfl ?_;simp -dsimp -implicitDefEqProofs only[go_sem,gn];((with_reducible and_intros);all_goals try omega);refine an hq ?_;simp -dsimp -implicitDefEqProofs only[go_sem];all_goals (first|exact rfl|skip)
 rw[if_neg hl];have dl:decide ((n:Int)≥(d.k.length:Int))=true:=dT (by omega);refine Fn.au 164 [.tmp 6,.tmp 7] func80 (hv:=?_);simp -dsimp -implicitDefEqProofs only[go_sem,w1,w2,w3,w4,w5,w6,w7,uq9,bk];((with_reducible and_intros);all_goals try omega);refine aj.draw mixed rfl ?_;simp -dsimp -implicitDefEqProofs only[go_sem];((with_reducible and_intros);all_goals try first|omega|exact rfl);all_goals try simp -dsimp -implicitDefEqProofs only[go_sem,dl]
theorem Tp (m:aJ)(x:lU):(kb m x).1.length<=x.length:=by
 unfold kb;split
 . split
   . rw[cZ];exact Nat.le_refl _
   simp
 simp
theorem QP (d:Dk)(hk:kt d=true)(x y:lU)(hx:x.length<=1000000)(hy:y.length<=1000000):Fn pG 94 [mg d,eS x,eS y] false (· = .aX [mg (wa d x y).1,eI (wa d x y).2]):=by
 refine Fn.bP 52 [.cell 6 26,.tmp 7] func94 (hv:=?_);obtain ⟨hF,ha1,ha2,hk1,hk2⟩:=dkA hk;have hr:=Fn.shared (y4 d.m x (by omega));have hrl:=Tp d.m x;unfold wa;by_cases hc:(kb d.m x).2=0
 . have e0:((0:Int) != 0)=false:=rfl;have hrd:=Fn.shared (Cd y (by omega));rw [if_pos hc];rw [hc] at hr;generalize (kb d.m x).1=K at*;rcases hdg:y.all dR with _|_
   . rw[hdg] at hrd;simp -dsimp -implicitDefEqProofs only[go_sem];refine av hr (by simp[ax,ao,aq,aF]) ?_;simp -dsimp -implicitDefEqProofs only[go_sem,e0];refine av hrd (by simp[ax,ao,aF]) ?_;simp -dsimp -implicitDefEqProofs only[go_sem]
   rw[hdg,if_pos rfl] at hrd;rw[if_pos rfl];have hcl:=cZ y;generalize bt y=R at*;have hl1:=l5 d.a (by have:=hF.al;omega) ha2;have hl2:=l5 d.k (by have:=hF.al;have:=hF.kl;omega) hk2
   have hd:=B0 d.m (d.a++[R]) (d.k++[K]) (by have:=hF.al;simp;omega) (λz hz=>by
    rcases dL.1 hz with hz|hz
    . exact ha2 z hz
    . rw[dE] at hz;subst hz;omega) (by have:=hF.al;have:=hF.kl;simp;omega) (λz hz=>by
    rcases dL.1 hz with hz|hz
    . exact hk2 z hz
    rw[dE] at hz;subst hz;omega)
   simp only[Nx,aQ,List.map_append,uq9,bk] at hd;have hal:=hF.al;have hkl:=hF.kl;have t1:(d.a.map aM).take d.a.length=d.a.map aM:=a_ (by simp);have t2:(d.k.map aM).take d.k.length=d.k.map aM:=a_ (by simp);have t3:(d.a.map aM++[aM R]).take (d.a.length+1)=d.a.map aM++[aM R]:=a_ (by simp);have t4:(d.k.map aM++[aM K]).take (d.k.length+1)=d.k.map aM++[aM K]:=a_ (by simp);have m1:(d.a++[R]).map aM=d.a.map aM++[aM R]:=(by simp);have m2:(d.k++[K]).map aM=d.k.map aM++[aM K]:=(by simp);rcases hdk:fS d.m (d.a++[R]) (d.k++[K]) with _|_
   . rw[hdk] at hd;rw[if_neg (by simp)];simp -dsimp -implicitDefEqProofs only[go_sem];refine av hr (by simp[ax,ao,aq,aF]) ?_;simp -dsimp -implicitDefEqProofs only[go_sem,e0];refine av hrd (by simp[ax,ao,aF]) ?_;simp -dsimp -implicitDefEqProofs only[go_sem];refine aj.draw mixed rfl ?_;simp -dsimp -implicitDefEqProofs only[go_sem];refine ik hl1 (by decide) rfl (by decide) ?_;simp -dsimp -implicitDefEqProofs only[go_sem,t1];refine .inr ⟨by omega,?_⟩;refine ik hl2 (by decide) rfl (by decide) ?_;simp -dsimp -implicitDefEqProofs only[go_sem,t2];refine .inr ⟨by omega,?_⟩;simp -dsimp -implicitDefEqProofs only[go_sem,t3,t4];((with_reducible and_intros);all_goals try exact rfl);refine aa hd ?_;simp -dsimp -implicitDefEqProofs only[go_sem]
   rw[hdk] at hd;rw[if_pos rfl];simp -dsimp -implicitDefEqProofs only[go_sem];refine av hr (by simp[ax,ao,aq,aF]) ?_;simp -dsimp -implicitDefEqProofs only[go_sem,e0];refine av hrd (by simp[ax,ao,aF]) ?_;simp -dsimp -implicitDefEqProofs only[go_sem];refine aj.draw mixed rfl ?_;simp -dsimp -implicitDefEqProofs only[go_sem];refine ik hl1 (by decide) rfl (by decide) ?_;simp -dsimp -implicitDefEqProofs only[go_sem,t1];refine .inr ⟨by omega,?_⟩;refine ik hl2 (by decide) rfl (by decide) ?_;simp -dsimp -implicitDefEqProofs only[go_sem,t2];refine .inr ⟨by omega,?_⟩;simp -dsimp -implicitDefEqProofs only[go_sem,t3,t4];((with_reducible and_intros);all_goals try exact rfl);refine aa hd ?_;simp -dsimp -implicitDefEqProofs only[go_sem,t3,t4];all_goals first|(simp;done)|skip
 rw[if_neg hc];have e0:((kb d.m x).2 != 0)=true:=bne_iff_ne.2 hc;generalize kb d.m x=K at*;simp -dsimp -implicitDefEqProofs only[go_sem];refine av hr (by simp[ax,ao,aq,aF]) ?_;simp -dsimp -implicitDefEqProofs only[go_sem,e0]
theorem DE (d:Dk)(hk:kt d=true)(x1 x2 x3 x4 x5:lU)(n1 n2 n3 n4 n5:Nat):Fn pG 79 [mg d,nC [gT,x1,x2,x3,x4,x5],aM [n1,n2,n3,n4,n5]] false (· = .aX [mg (dU d (.lq ⟨n1,n2,n3,n4,n5⟩)).1,eI (dU d (.lq ⟨n1,n2,n3,n4,n5⟩)).2]):=by
 refine Fn.uh (Fn.mono (post:=λx=>su x (.aX [mg (dU d (.lq ⟨n1,n2,n3,n4,n5⟩)).1,eI (dU d (.lq ⟨n1,n2,n3,n4,n5⟩)).2])) (Fn.bP 102 [.cell 6 26,.tmp 7] func79 (hv:=?_)) λx hx=>⟨_,hx,rfl⟩);have hm:=fC ⟨n1,n2,n3,n4,n5⟩;have w1:decide (gT=[109,97,107,101,114])=true:=by decide
 simp only[dU];rcases lz:aU ⟨n1,n2,n3,n4,n5⟩ with _|_
 . rw[lz] at hm;rw[if_neg (by simp)];simp -dsimp -implicitDefEqProofs only[go_sem,w1,uq9,bk];((with_reducible and_intros);all_goals try omega);refine aj.draw mixed rfl ?_;simp -dsimp -implicitDefEqProofs only[go_sem];((with_reducible and_intros);all_goals try first|omega|exact rfl);refine aa hm ?_;simp -dsimp -implicitDefEqProofs only[go_sem]
 rw[lz] at hm;rw[if_pos rfl];simp -dsimp -implicitDefEqProofs only[go_sem,w1,uq9,bk];((with_reducible and_intros);all_goals try omega);refine aj.draw mixed rfl ?_;simp -dsimp -implicitDefEqProofs only[go_sem];((with_reducible and_intros);all_goals try first|omega|exact rfl);refine aa hm ?_;simp -dsimp -implicitDefEqProofs only[go_sem]
theorem Js (d:Dk)(hk:kt d=true)(x y:lU)(hx:x.length<=1000000)(hy:y.length<=1000000):Fn pG 79 [mg d,nC [lh,x,y],aM []] false (· = .aX [mg (dU d (.key x y)).1,eI (dU d (.key x y)).2]):=by
 refine Fn.bP 102 [.cell 6 26,.tmp 7] func79 (hv:=?_);have hq:=QP d hk x y hx hy;have w1:decide (lh=[109,97,107,101,114])=false:=by decide
 have w2:decide (lh=[107,101,121])=true:=by decide
 simp only[dU];generalize wa d x y=q at*;simp -dsimp -implicitDefEqProofs only[go_sem,w1,w2,uq9,bk];((with_reducible and_intros);all_goals try omega);refine aj.draw mixed rfl ?_;simp -dsimp -implicitDefEqProofs only[go_sem];((with_reducible and_intros);all_goals try omega);refine aH hq (by simp[ax,ao,aq,aF]) ?_;simp -dsimp -implicitDefEqProofs only[go_sem];all_goals try exact rfl
theorem G1 (d:Dk)(hk:kt d=true)(x:lU)(n:Nat)(hn:n<=9999999999999):Fn pG 79 [mg d,nC [iH,x],aM [n]] false (· = .aX [mg (dU d (.drop n)).1,eI (dU d (.drop n)).2]):=by
 refine Fn.bP 102 [.cell 6 26,.tmp 7] func79 (hv:=?_);obtain ⟨hF,ha1,ha2,hk1,hk2⟩:=dkA hk;have hi:=jE (n:Int) 0 ((d.k.length:Int)-1);have hal:=hF.al;have hkl:=hF.kl;have e1:=s9 d.a n (by omega) ha2;have e2:=s9 d.k n (by omega) hk2;have w1:decide (iH=[109,97,107,101,114])=false:=by decide
 have w2:decide (iH=[107,101,121])=false:=by decide
 have w3:decide (iH=[100,114,111,112])=true:=by decide
 simp only[dU];by_cases hl:n<d.k.length
 . rw[show bA (n:Int) 0 ((d.k.length:Int)-1)=true by simp only[bA,uq0,decide_eq_true_eq];omega] at hi;rw[if_pos hl];simp -dsimp -implicitDefEqProofs only[go_sem,w1,w2,w3,uq9,bk];((with_reducible and_intros);all_goals try omega);refine aj.draw mixed rfl ?_;simp -dsimp -implicitDefEqProofs only[go_sem];((with_reducible and_intros);all_goals try first|omega|(refine ⟨?_,?_⟩<;>omega));refine an hi ?_;simp -dsimp -implicitDefEqProofs only[go_sem];((with_reducible and_intros);all_goals try exact rfl);refine aj.draw mixed rfl ?_;simp -dsimp -implicitDefEqProofs only[go_sem];((with_reducible and_intros);all_goals try omega);refine aH e1 (by simp[ax,ao,aF]) ?_;simp -dsimp -implicitDefEqProofs only[go_sem];((with_reducible and_intros);all_goals try omega);refine aH e2 (by simp[ax,ao,aF]) ?_;simp -dsimp -implicitDefEqProofs only[go_sem];all_goals try exact rfl
 rw[show bA (n:Int) 0 ((d.k.length:Int)-1)=false by rw[Bool.eq_false_iff];simp only[bA,ne_eq,uq0,decide_eq_true_eq];omega] at hi;rw[if_neg hl];simp -dsimp -implicitDefEqProofs only[go_sem,w1,w2,w3,uq9,bk];((with_reducible and_intros);all_goals try omega);refine aj.draw mixed rfl ?_;simp -dsimp -implicitDefEqProofs only[go_sem];((with_reducible and_intros);all_goals try first|omega|(refine ⟨?_,?_⟩<;>omega));refine an hi ?_;simp -dsimp -implicitDefEqProofs only[go_sem];all_goals try exact rfl
theorem G2 (d:Dk)(hk:kt d=true)(x:lU)(n:Nat)(hn:n<=9999999999999):Fn pG 79 [mg d,nC [gX,x],aM [n]] false (· = .aX [mg (dU d (.find n)).1,eI (dU d (.find n)).2]):=by
 refine Fn.bP 102 [.cell 6 26,.tmp 7] func79 (hv:=?_);obtain ⟨hF,ha1,ha2,hk1,hk2⟩:=dkA hk;have hal:=hF.al;have hq:=QM d.m d.a n ha1 ha2;have hl:=nR d.a (by omega) ha2;have w1:decide (gX=[109,97,107,101,114])=false:=by decide
 have w2:decide (gX=[107,101,121])=false:=by decide
 have w3:decide (gX=[100,114,111,112])=false:=by decide
 simp only[dU];generalize gO d.m d.a n=q at*;by_cases hc:q.2.2=0
 . rw[if_pos hc];rw[hc] at hq;have e0:((0:Int) != 0)=false:=rfl;simp -dsimp -implicitDefEqProofs only[go_sem,w1,w2,w3,uq9,bk];((with_reducible and_intros);all_goals try omega);refine aj.draw mixed rfl ?_;simp -dsimp -implicitDefEqProofs only[go_sem];((with_reducible and_intros);all_goals try omega);refine aH hq (by simp[ax,ao,aq,aF]) ?_;simp -dsimp -implicitDefEqProofs only[go_sem,e0];((with_reducible and_intros);all_goals try exact rfl);refine aj.draw mixed rfl ?_;simp -dsimp -implicitDefEqProofs only[go_sem];refine aH hl (by simp[ax,ao,aF]) ?_;simp -dsimp -implicitDefEqProofs only[go_sem];all_goals try exact rfl
 rw[if_neg hc];have e0:(q.2.2 != 0)=true:=bne_iff_ne.2 hc;simp -dsimp -implicitDefEqProofs only[go_sem,w1,w2,w3,uq9,bk];((with_reducible and_intros);all_goals try omega);refine aj.draw mixed rfl ?_;simp -dsimp -implicitDefEqProofs only[go_sem];((with_reducible and_intros);all_goals try omega);refine aH hq (by simp[ax,ao,aq,aF]) ?_;simp -dsimp -implicitDefEqProofs only[go_sem,e0];all_goals try exact rfl
theorem G3 (d:Dk)(hk:kt d=true){ws:List lU}{ns:lI}{c:Dx}(h:mW ws ns c)(hc:zi c=true)(hl:∀w∈ws,w.length<=1000000):Fn pG 79 [mg d,nC ws,aM ns] false (· = .aX [mg (dU d c).1,eI (dU d c).2]):=by
 cases h with
 |lq=>exact DE d hk ..
 |key x y=>exact Js d hk x y (hl x (by simp)) (hl y (by simp))
 |drop x n hn=>exact G1 d hk x n hn
 |find x n hn=>exact G2 d hk x n hn
 |_=>cases hc
theorem QQ (d:Dk)(hk:kt d=true){ws:List lU}{ns:lI}{c:Dx}(h:mW ws ns c)(hc:zi c=false)(hl:∀w∈ws,w.length<=1000000):Fn pG 80 [mg d,nC ws,aM ns] true (· = .aX [eS (b9 [45] d c).1,eI (b9 [45] d c).2]):=by
 cases h with
 |Nz=>exact Jr d hk
 |cj=>exact zY d hk
 |count=>exact DA d hk
 |j8=>exact zZ d hk
 |pD=>exact DC d hk
 |lock x n hn=>exact G0 d hk x n hn
 |opens x=>exact DB d hk x (by have:=hl x (by simp);omega)
 |pE x y n s hn=>exact DD d hk x y n s hn
 |_=>cases hc
theorem G4 (m:aJ)(x:lU):0<=(kb m x).2/\(kb m x).2<=6:=by
 unfold kb;split
 . split<;>simp
 simp
theorem Jt (m:aJ)(t:lL)(lim:Nat):0<=(gO m t lim).2.2/\(gO m t lim).2.2<=6:=by unfold gO k_;generalize dQ m t lim t.length [] ⟨0,false,[]⟩=F;obtain ⟨b,tr,st,fd⟩:=F;rcases eX m t with _|_<;>rcases bA (lim:Int) 0 4000 with _|_<;>rcases fd with _|⟨f,r⟩<;>cases st<;>simp
theorem G5 (m:aJ)(key:lI)(se sec:Int):0<=(j5 m key se sec).2/\(j5 m key se sec).2<=6:=by
 have hc:0<=lZ m se sec/\lZ m se sec<=6:=by
  unfold lZ;split
  . split<;>simp
  simp
 unfold j5;split
 . split<;>simp
 exact hc
theorem Cz (d:Dk)(c:Dx):0<=(dU d c).2/\(dU d c).2<=6:=by
 cases c<;>simp only[dU]
 . split<;>simp
 . unfold wa;split
   . split
     . split<;>simp
     simp
   exact G4 d.m _
 . split<;>simp
 . split
   . simp
   exact Jt ..
 all_goals simp
theorem zp (e:lU)(d:Dk)(c:Dx):0<=(b9 e d c).2/\(b9 e d c).2<=6:=by
 have hcc:0<=bV d.m d.a d.k/\bV d.m d.a d.k<=6:=by
  unfold bV;split
  . split<;>simp
  simp
 have h01:∀b:Bool,0<=(if b=true then (0:Int) else 1)/\(if b=true then (0:Int) else 1)<=6:=λb=>by cases b<;>simp
 cases c<;>simp only[b9]
 case Nz=>exact hcc
 case cj=>exact h01 _
 case pD=>exact h01 _
 case count=>exact h01 _
 case j8=>exact h01 _
 case lock n=>
  split
  . split<;>simp
  exact hcc
 case opens x=>
  split
  . split
    . simp
    unfold Cj;split
    . split<;>simp
    simp
  exact G4 d.m x
 case pE n s=>
  split
  . exact G5 ..
  simp
 all_goals simp
theorem mW.head {ws:List lU}{ns:lI}{c:Dx}(h:mW ws ns c):∃w,ws[0]? =some w/\((zi c=true/\(w=gT\/w=lh\/w=iH\/w=gX))\/(zi c=false/\w≠gT/\w≠lh/\w≠iH/\w≠gX)):=by
 cases h
 case lq=>exact ⟨_,rfl,.inl ⟨rfl,.inl rfl⟩⟩
 case key=>exact ⟨_,rfl,.inl ⟨rfl,.inr (.inl rfl)⟩⟩
 case drop=>exact ⟨_,rfl,.inl ⟨rfl,.inr (.inr (.inl rfl))⟩⟩
 case find=>exact ⟨_,rfl,.inl ⟨rfl,.inr (.inr (.inr rfl))⟩⟩
 all_goals exact ⟨_,rfl,.inr ⟨rfl,by decide,by decide,by decide,by decide⟩⟩
theorem vM {s:lU}:∀w∈(ft s).1,w.length<=s.length:=by
 have h:=iX 32 s;unfold ft;split
 . simp
 split
 . exact h
 split
 . exact h
 simp
theorem nV {w:lU}(h:w=gT\/w=lh\/w=iH\/w=gX):
 decide (w=[109,97,107,101,114])=true\/(decide (w=[109,97,107,101,114])=false/\decide (w=[107,101,121])=true)\/(decide (w=[109,97,107,101,114])=false/\decide (w=[107,101,121])=false/\decide (w=[100,114,111,112])=true)∨
  (decide (w=[109,97,107,101,114])=false/\decide (w=[107,101,121])=false/\decide (w=[100,114,111,112])=false/\decide (w=[102,105,110,100])=true):=by
 rcases h with rfl|rfl|rfl|rfl<;>decide
theorem zq (d:Dk)(hk:kt d=true)(l:lU)(hl:l.length<=1000000):Fn pG 55 [mg d,eS l] false (· = .aX [mg (mX d l).1,eS (mX d l).2]):=by
 refine Fn.bP 54 [.cell 4 26,.tmp 5] func55 (hv:=?_);have hp:=Fn.shared (I8 l (by omega));have hw:=vM (s:=l);rcases hb:(ft l).2.2 with _|_
 . have hR:mX d l=(d,zl 6):=(by unfold mX;rw[zk hb]);rw[hR];have hi6:=bU (v:=6) (by unfold jy;omega);rw[hb] at hp;have h6:=cC 6 (by omega);generalize ft l=p at*;simp only[zl];simp -dsimp -implicitDefEqProofs only[go_sem];refine av hp (by simp[ax,ao,aF]) ?_;simp -dsimp -implicitDefEqProofs only[go_sem];refine aj.draw mixed rfl ?_;simp -dsimp -implicitDefEqProofs only[go_sem];refine an h6 ?_;simp -dsimp -implicitDefEqProofs only[go_sem];((with_reducible and_intros);all_goals try first|omega|exact rfl)
 obtain ⟨c,hco,hcm⟩:=zj hb;have hR:mX d l=VW d c:=by unfold mX;rw[hco]
 rw[hR];rw[hb] at hp;have DS:=λh=>G3 d hk hcm h λw hm=>by have:=hw w hm;omega
 have z7:=λh=>QQ d hk hcm h λw hm=>by have:=hw w hm;omega
 obtain ⟨w0,g0,hhd⟩:=hcm.head;have hcc:=Cz d c;have hca:=zp [] d c;have ht:=Nd [45] [] d c;rw[Nc [45] [] d c] at z7 ht;have hlen:0<(ft l).1.length:=(List.getElem?_eq_some_iff.1 g0).1;clear hcm hco hR;generalize ft l=p at*;obtain ⟨ws,ns,b⟩:=p;simp only at hp DS z7 g0 hb hlen;subst hb;clear hw;unfold VW;rcases hhd with ⟨hch,hwd⟩|⟨hch,n1,n2,n3,n4⟩
 . have hq:=DS hch;rw [if_pos hch];clear DS z7 ht hca;generalize dU d c=q at*;by_cases hc:q.2=0
   . rw [if_pos hc];rw [hc] at hq;have e0:((0:Int) != 0)=false:=rfl;rcases nV hwd with w1|⟨w1,w2⟩|⟨w1,w2,w3⟩|⟨w1,w2,w3,w4⟩
     all_goals (
      simp -dsimp -implicitDefEqProofs only[go_sem];refine av hp (by simp[ax,ao,aF]) ?_;simp -dsimp -implicitDefEqProofs only[go_sem, *];((with_reducible and_intros);all_goals try omega);refine av hq (by simp[ax,ao,aq,aF]) ?_
      simp -dsimp -implicitDefEqProofs only[go_sem, *])
   rw[if_neg hc];have e0:(q.2 != 0)=true:=bne_iff_ne.2 hc;have hd:=cC q.2 (by omega);have hi6:=bU (v:=q.2) (by unfold jy;omega);simp only[zl];rcases nV hwd with w1|⟨w1,w2⟩|⟨w1,w2,w3⟩|⟨w1,w2,w3,w4⟩
   all_goals (
    simp -dsimp -implicitDefEqProofs only[go_sem];refine av hp (by simp[ax,ao,aF]) ?_;simp -dsimp -implicitDefEqProofs only[go_sem, *];((with_reducible and_intros);all_goals try omega);refine av hq (by simp[ax,ao,aq,aF]) ?_;simp -dsimp -implicitDefEqProofs only[go_sem, *];refine aj.draw mixed rfl ?_;simp -dsimp -implicitDefEqProofs only[go_sem];refine an hd ?_;simp -dsimp -implicitDefEqProofs only[go_sem]
    ((with_reducible and_intros);all_goals try first|omega|exact rfl))
 have hq:=z7 hch;rw[if_neg (by rw[hch];simp)];have w1:decide (w0=[109,97,107,101,114])=false:=dF n1;have w2:decide (w0=[107,101,121])=false:=dF n2;have w3:decide (w0=[100,114,111,112])=false:=dF n3;have w4:decide (w0=[102,105,110,100])=false:=dF n4;clear DS z7 hcc n1 n2 n3 n4;generalize b9 [45] d c=q at*;generalize b9 [] d c=q' at*;by_cases hc:q'.2=0
 . rw[if_pos hc];rw[ht hc] at hq;rw[hc] at hq;have e0:((0:Int) != 0)=false:=rfl;simp -dsimp -implicitDefEqProofs only[go_sem];refine av hp (by simp[ax,ao,aF]) ?_;simp -dsimp -implicitDefEqProofs only[go_sem,g0,w1,w2,w3,w4];((with_reducible and_intros);all_goals try omega);refine aa hq ?_;simp -dsimp -implicitDefEqProofs only[go_sem,e0]
 rw[if_neg hc];have e0:(q'.2 != 0)=true:=bne_iff_ne.2 hc;have hd:=cC q'.2 (by omega);have hi6:=bU (v:=q'.2) (by unfold jy;omega);simp only[zl];simp -dsimp -implicitDefEqProofs only[go_sem];refine av hp (by simp[ax,ao,aF]) ?_;simp -dsimp -implicitDefEqProofs only[go_sem,g0,w1,w2,w3,w4];((with_reducible and_intros);all_goals try omega);refine aa hq ?_;simp -dsimp -implicitDefEqProofs only[go_sem,e0];refine aj.draw mixed rfl ?_;simp -dsimp -implicitDefEqProofs only[go_sem];refine an hd ?_;simp -dsimp -implicitDefEqProofs only[go_sem];((with_reducible and_intros);all_goals try first|omega|exact rfl)
noncomputable def gg (s:lU):Dk × Int:=if (decide (s.length<=3000)&&decide ((dx s).length<=50))=true then ((eQ (dx s)).1,0) else (⟨⟨0,0,0,0,0⟩,[],[]⟩,3)
noncomputable def pH (s:lU):List lU × Int:=if (decide (s.length<=3000)&&decide ((dx s).length<=50))=true then ((eQ (dx s)).2,0) else ([],3)
theorem DF (ls:List lU):kt (eQ ls).1=true:=by
 have:=zo ls ls.length
 rwa [cM] at this
theorem zr:Fn pG 40 [] false (· =mg QI):=by refine Fn.uh (Fn.mono (post:=λx=>su x (mg QI)) (Fn.bP 3 [.cell 0 26] func40 (hv:=?_)) λx hx=>⟨_,hx,rfl⟩);unfold QI;simp -dsimp -implicitDefEqProofs only[go_sem]
theorem G6 (ls:List lU)(h:ls.length<=1000000)(hl:∀l∈ls,l.length<=1000000):Fn pG 29 [nC ls] false (· = .aX [mg (eQ ls).1,nC (eQ ls).2]):=by
 refine Fn.bP 33 [.cell 2 26,.tmp 3] func29 (hv:=?_);have h0:=zr;have hln:∀i,i<=ls.length->(eQ (ls.take i)).2.length=i:=λi hi=>by rw[Dy];simp;omega
 simp -dsimp -implicitDefEqProofs only[go_sem];refine av h0 (by exact True.intro) ?_;simp -dsimp -implicitDefEqProofs only[go_sem]
 refine aj.up [0,2,4] [7,13,23,29,30] [10,4] ls.length (λ_=>True) (λi=>[(6,eI i),(5,.ref 10 0 0 i)])
  (λi=>[(10,.row 0 ⟨1,false⟩ true ((eQ (ls.take i)).2.map eS)),(4,.box 0 [eI (eQ (ls.take i)).1.m.ae,eI (eQ (ls.take i)).1.m.ak,eI (eQ (ls.take i)).1.m.step,eI (eQ (ls.take i)).1.m.same,eI (eQ (ls.take i)).1.m.least,aQ (eQ (ls.take i)).1.a,aQ (eQ (ls.take i)).1.k])]) trivial ?_ rfl (λi hi _=>?_) (λ_=>?_)
 . rw[bp,zn];unfold QI;simp -dsimp -implicitDefEqProofs only[go_sem]
 . have gi:=get_some hi;have li:=aE hi;have cH:=zq (eQ (ls.take i)).1 (zo ls i) ls[i] (hl _ (uq4 hi));have hs:=uu hi;unfold zm at hs;have hl1:=hln i (by omega);rw[hs];clear hs hln;generalize eQ (ls.take i)=p at*;generalize ls[i]=l at*;generalize mX p.1 l=r at*;have tP:(p.2.map eS).take i=p.2.map eS:=a_ (by simp;omega);have eM:(p.2++[r.2]).map eS=p.2.map eS++[eS r.2]:=(by simp);rw[eM];simp -dsimp -implicitDefEqProofs only[go_sem,li];refine aj.draw mixed rfl ?_;simp -dsimp -implicitDefEqProofs only[go_sem,gi];((with_reducible and_intros);all_goals try omega);refine aH cH (by simp[ax,ao,aq,aF]) ?_;simp -dsimp -implicitDefEqProofs only[go_sem];((with_reducible and_intros);all_goals try first|omega|(refine ⟨?_,?_⟩<;>omega)|exact rfl);all_goals try simp -dsimp -implicitDefEqProofs only[go_sem,tP]
 rw[cM];have hl1:=hln ls.length (Nat.le_refl _);rw[cM] at hl1;generalize eQ ls=p at*;have tP:(p.2.map eS).take ls.length=p.2.map eS:=a_ (by simp;omega);simp -dsimp -implicitDefEqProofs only[go_sem,aA,tP];(all_goals try omega)
theorem Rq (s:lU)(h:s.length<=1048576):Fn pG 15 [eS s] false (· = .aX [nC (pH s).1,eI (pH s).2]):=by
 refine Fn.uh (Fn.mono (post:=λx=>su x (.aX [nC (pH s).1,eI (pH s).2])) (Fn.bP 16 [.tmp 2,.tmp 3] func15 (hv:=?_)) λx hx=>⟨_,hx,rfl⟩);have hf:=Cg s h;have hll:=Fn.shared (rC s h);have hb:=rB s;have ha:=G6 (dx s);unfold pH;rcases mh:(decide (s.length<=3000)&&decide ((dx s).length<=50)) with _|_
 . rw[mh] at hf;rw[if_neg (by simp)];simp -dsimp -implicitDefEqProofs only[go_sem];refine aa hf ?_;simp -dsimp -implicitDefEqProofs only[go_sem]
 rw[mh] at hf;rw[if_pos rfl];simp only[uq0,decide_eq_true_eq] at mh;have ha:=ha (by omega) λl hl=>by have:=hb.2 l hl;omega
 generalize dx s=ls at*;generalize eQ ls=p at*;simp -dsimp -implicitDefEqProofs only[go_sem];refine aa hf ?_;simp -dsimp -implicitDefEqProofs only[go_sem];refine av hll (by simp[ax,ao,aF]) ?_;simp -dsimp -implicitDefEqProofs only[go_sem];refine av ha (by simp[ax,ao,aF]) ?_;simp -dsimp -implicitDefEqProofs only[go_sem]
theorem s_ (s:lU)(h:s.length<=1048576):Fn pG 7 [eS s] false (· = .aX [mg (gg s).1,eI (gg s).2]):=by
 refine Fn.uh (Fn.mono (post:=λx=>su x (.aX [mg (gg s).1,eI (gg s).2])) (Fn.bP 25 [.cell 2 26,.tmp 3] func7 (hv:=?_)) λx hx=>⟨_,hx,rfl⟩);have hf:=Cg s h;have hll:=Fn.shared (rC s h);have hb:=rB s;have ha:=G6 (dx s);have hok:=DF (dx s);unfold gg;rcases mh:(decide (s.length<=3000)&&decide ((dx s).length<=50)) with _|_
 . rw[mh] at hf;rw[if_neg (by simp)];simp -dsimp -implicitDefEqProofs only[go_sem];refine aa hf ?_;simp -dsimp -implicitDefEqProofs only[go_sem]
 rw[mh] at hf;rw[if_pos rfl];simp only[uq0,decide_eq_true_eq] at mh;have ha:=ha (by omega) λl hl=>by have:=hb.2 l hl;omega
 generalize dx s=ls at*;generalize eQ ls=p at*;have hF:=Wz hok;have h1:=nR p.1.a (by have:=hF.al;omega) λx hx=>by have:=hF.ar x hx;omega
 have h2:=nR p.1.k (by have:=hF.al;have:=hF.kl;omega) λx hx=>by have:=hF.kn x hx;omega
 simp -dsimp -implicitDefEqProofs only[go_sem];refine aa hf ?_;simp -dsimp -implicitDefEqProofs only[go_sem];refine av hll (by simp[ax,ao,aF]) ?_;simp -dsimp -implicitDefEqProofs only[go_sem];refine av ha (by simp[ax,ao,aF]) ?_;simp -dsimp -implicitDefEqProofs only[go_sem];refine aj.draw mixed rfl ?_;simp -dsimp -implicitDefEqProofs only[go_sem];refine aH h1 (by simp[ax,ao,aF]) ?_;simp -dsimp -implicitDefEqProofs only[go_sem];refine aH h2 (by simp[ax,ao,aF]) ?_;simp -dsimp -implicitDefEqProofs only[go_sem];all_goals try exact rfl
theorem Ni (d:Dk)(c:Dx):(dU d c).2≠0->(dU d c).1=d:=by
 cases c<;>simp only[dU]
 . split
   . intro h;exact absurd rfl h
   intro _;rfl
 . unfold wa;split
   . split
     . split
       . intro h;exact absurd rfl h
       intro _;rfl
     intro _;rfl
   intro _;rfl
 . split
   . intro h;exact absurd rfl h
   intro _;rfl
 . split
   . intro h;exact absurd rfl h
   intro _;rfl
 all_goals (intro h;exact absurd rfl h)
theorem QR (d:Dk)(hk:kt d=true){ws:List lU}{ns:lI}{c:Dx}(h:mW ws ns c)(hc:zi c=true)(hl:∀w∈ws,w.length<=1000000)(va vk:Nat):
 fN pG 84 (zV va vk d) [.ptr 1900000006 0 0 0,nC ws,aM ns] (λr m'=>r=eI (dU d c).2/\m'=zV (va+1) (vk+1) (dU d c).1):=by
 cases h with
 |lq=>exact GZ d hk ..
 |key x y=>exact Nh d hk x y (hl x (by simp)) (hl y (by simp)) va vk
 |drop x n hn=>exact Jp d hk x n hn va vk
 |find x n hn=>exact Jq d hk x n hn va vk
 |_=>cases hc
theorem Xx (d:Dk)(hk:kt d=true){ws:List lU}{ns:lI}{c:Dx}(h:mW ws ns c)(hc:zi c=false)(hl:∀w∈ws,w.length<=1000000):
 Fn pG 85 [.bo ⟨7,true⟩ [mg d] 0 0,nC ws,aM ns] true (· = .aX [eS (b9 [] d c).1,eI (b9 [] d c).2]):=by
 cases h with
 |Nz=>exact wx d iY .Nz (by decide) (Jn d hk)
 |cj=>exact wx d fe .cj (by decide) (zW d hk)
 |count=>exact wx d fT .count (by decide) (Dz d hk)
 |j8=>exact wx d dr .j8 (by decide) (zX d hk)
 |pD=>exact GX d hk
 |lock x n hn=>exact Jo d hk x n hn
 |opens x=>exact GW d hk x (by have:=hl x (by simp);omega)
 |pE x y n s hn=>exact GY d hk x y n s hn
 |_=>cases hc
theorem Nj (d:Dk)(hk:kt d=true)(l:lU)(hl:l.length<=1000000)(va vk:Nat):fN pG 60 (zV va vk d) [.ptr 1900000006 0 0 0,eS l] (λr m'=>r=eS (mX d l).2/\m'=zV (va+1) (vk+1) (mX d l).1):=by
 refine fN.dk (fN.tS 45 [.tmp 4] func60 rfl rfl rfl rfl rfl (oT rfl) (by decide) ?_);have hp:=Fn.shared (I9 l (by omega));have hw:=vM (s:=l);rw[gU];have t1:(d.a.map aM).take d.a.length=d.a.map aM:=a_ (by simp);have t2:(d.k.map aM).take d.k.length=d.k.map aM:=a_ (by simp);rcases hb:(ft l).2.2 with _|_
 . have hR:mX d l=(d,zl 6):=(by unfold mX;rw[zk hb]);rw[hR];have hi6:=bU (v:=6) (by unfold jy;omega);rw[hb] at hp;have h6:=la (n:=6) (by unfold jy;omega);generalize ft l=p at*;simp only[zl];simp -dsimp -implicitDefEqProofs only[go_sem,uq6];refine av hp (by simp[ax,ao,aF]) ?_;simp -dsimp -implicitDefEqProofs only[go_sem];refine aa h6 ?_;simp -dsimp -implicitDefEqProofs only[go_sem];((with_reducible and_intros);all_goals try omega);((refine pF (oa:=some 1900000500) (oc:=some 1900000501) rfl ?_ (d_.mk ?_ rfl) (d_.mk ?_ rfl) ?_ ?_ ?_ ⟨rfl,rfl,?_,?_⟩);all_goals first|exact rfl|(simp;done)|skip)
 obtain ⟨c,hco,hcm⟩:=zj hb;have hR:mX d l=VW d c:=by unfold mX;rw[hco]
 rw[hR];rw[hb] at hp;have DS:=λh=>QR d hk hcm h (λw hm=>by have:=hw w hm;omega) va vk;have z7:=λh=>Xx d hk hcm h λw hm=>by have:=hw w hm;omega
 obtain ⟨w0,g0,hhd⟩:=hcm.head;have hcc:=Cz d c;have hca:=zp [] d c;have hlen:0<(ft l).1.length:=(List.getElem?_eq_some_iff.1 g0).1;clear hcm hco hR;generalize ft l=p at*;obtain ⟨ws,ns,b⟩:=p;simp only at hp DS z7 g0 hb hlen;subst hb;clear hw;unfold VW;rcases hhd with ⟨hch,hwd⟩|⟨hch,n1,n2,n3,n4⟩
 . have hq:=DS hch;rw [if_pos hch];clear DS z7 hca;have hd':(dU d c).2≠0->(dU d c).1=d:=Ni d c;generalize dU d c=q at*;by_cases hc:q.2=0
   . rw [if_pos hc];rw [hc] at hq;have e0:((0:Int) != 0)=false:=rfl;rcases nV hwd with w1|⟨w1,w2⟩|⟨w1,w2,w3⟩|⟨w1,w2,w3,w4⟩
     all_goals (
      simp -dsimp -implicitDefEqProofs only[go_sem,uq6];refine av hp (by simp[ax,ao,aF]) ?_;simp -dsimp -implicitDefEqProofs only[go_sem, *];((with_reducible and_intros);all_goals try omega);refine cU hq ⟨⟨?_,?_⟩,?_,?_⟩ ?_
      . simp -dsimp -implicitDefEqProofs only[go_sem,kX]
      . simp -dsimp -implicitDefEqProofs only[go_sem,gU,uq6];all_goals try (simp;done)
      . simp -dsimp -implicitDefEqProofs only[go_sem,gU,uq6]
      . simp -dsimp -implicitDefEqProofs only[go_sem,kX];all_goals try (simp;done)
      rintro r m' ⟨hr,hm'⟩;rw[hr,hm'];simp only[zV,gU];simp -dsimp -implicitDefEqProofs only[go_sem,uq6,e0]
      ((refine pF (oa:=some 1900000500) (oc:=some 1900000501) rfl ?_ (d_.mk ?_ rfl) (d_.mk ?_ rfl) ?_ ?_ ?_ ⟨rfl,rfl,?_,?_⟩);all_goals first|exact rfl|(simp;done)|skip))
   rw[if_neg hc];rw[hd' hc] at hq;have e0:(q.2 != 0)=true:=bne_iff_ne.2 hc;have hd:=la (n:=q.2) (by unfold jy;omega);have hi6:=bU (v:=q.2) (by unfold jy;omega);simp only[zl];rcases nV hwd with w1|⟨w1,w2⟩|⟨w1,w2,w3⟩|⟨w1,w2,w3,w4⟩
   all_goals (
    simp -dsimp -implicitDefEqProofs only[go_sem,uq6];refine av hp (by simp[ax,ao,aF]) ?_;simp -dsimp -implicitDefEqProofs only[go_sem, *];((with_reducible and_intros);all_goals try omega);refine cU hq ⟨⟨?_,?_⟩,?_,?_⟩ ?_
    . simp -dsimp -implicitDefEqProofs only[go_sem,kX]
    . simp -dsimp -implicitDefEqProofs only[go_sem,gU,uq6];all_goals try (simp;done)
    . simp -dsimp -implicitDefEqProofs only[go_sem,gU,uq6]
    . simp -dsimp -implicitDefEqProofs only[go_sem,kX];all_goals try (simp;done)
    rintro r m' ⟨hr,hm'⟩;rw[hr,hm'];simp only[zV,gU];simp -dsimp -implicitDefEqProofs only[go_sem,uq6,e0];refine aa hd ?_;simp -dsimp -implicitDefEqProofs only[go_sem];((with_reducible and_intros);all_goals try omega)
    ((refine pF (oa:=some 1900000500) (oc:=some 1900000501) rfl ?_ (d_.mk ?_ rfl) (d_.mk ?_ rfl) ?_ ?_ ?_ ⟨rfl,rfl,?_,?_⟩);all_goals first|exact rfl|(simp;done)|skip))
 have hq:=z7 hch;rw[if_neg (by rw[hch];simp)];have w1:decide (w0=[109,97,107,101,114])=false:=dF n1;have w2:decide (w0=[107,101,121])=false:=dF n2;have w3:decide (w0=[100,114,111,112])=false:=dF n3;have w4:decide (w0=[102,105,110,100])=false:=dF n4;clear DS z7 hcc n1 n2 n3 n4;generalize b9 [] d c=q' at*;by_cases hc:q'.2=0
 . rw [if_pos hc];rw [hc] at hq;have e0:((0:Int) != 0)=false:=rfl;simp -dsimp -implicitDefEqProofs only [go_sem,uq6];refine av hp (by simp [ax,ao,aF]) ?_;simp -dsimp -implicitDefEqProofs only [go_sem,g0,w1,w2,w3,w4];((with_reducible and_intros);all_goals try omega);refine yA (r:=.aX [eS q'.1,eI 0]) (cells:=[eI d.m.ae,eI d.m.ak,eI d.m.step,eI d.m.same,eI d.m.least,aQ d.a,aQ d.k]) ?_ rfl ?_ ?_ ?_
   . exact hq
   . simp -dsimp -implicitDefEqProofs only[go_sem,t1,t2]
   . simp[aq,ao]
   simp -dsimp -implicitDefEqProofs only[go_sem,e0];((refine pF (oa:=some 1900000500) (oc:=some 1900000501) rfl ?_ (d_.mk ?_ rfl) (d_.mk ?_ rfl) ?_ ?_ ?_ ⟨rfl,rfl,?_,?_⟩);all_goals first|exact rfl|(simp;done)|skip)
 rw[if_neg hc];have e0:(q'.2 != 0)=true:=bne_iff_ne.2 hc;have hd:=la (n:=q'.2) (by unfold jy;omega);have hi6:=bU (v:=q'.2) (by unfold jy;omega);simp only[zl];simp -dsimp -implicitDefEqProofs only[go_sem,uq6];refine av hp (by simp[ax,ao,aF]) ?_;simp -dsimp -implicitDefEqProofs only[go_sem,g0,w1,w2,w3,w4];((with_reducible and_intros);all_goals try omega);refine yA (r:=.aX [eS q'.1,eI q'.2]) (cells:=[eI d.m.ae,eI d.m.ak,eI d.m.step,eI d.m.same,eI d.m.least,aQ d.a,aQ d.k]) ?_ rfl ?_ ?_ ?_
 . exact hq
 . simp -dsimp -implicitDefEqProofs only[go_sem,t1,t2]
 . simp[aq,ao]
 simp -dsimp -implicitDefEqProofs only[go_sem,e0];refine aa hd ?_;simp -dsimp -implicitDefEqProofs only[go_sem];((with_reducible and_intros);all_goals try omega);((refine pF (oa:=some 1900000500) (oc:=some 1900000501) rfl ?_ (d_.mk ?_ rfl) (d_.mk ?_ rfl) ?_ ?_ ?_ ⟨rfl,rfl,?_,?_⟩);all_goals first|exact rfl|(simp;done)|skip)
theorem Nk (s:lU):(oq s).length<=s.length:=by
 unfold oq;split
 . simp
 exact Nat.le_refl _
theorem Xy (s:lU)(h:s.length<=1048576):Fn pG 32 [eS s] true (· = .aX [mg (gg s).1,nC (pH s).1,eI (pH s).2]):=by
 refine Fn.au 41 [.cell 2 26,.tmp 3,.tmp 4] func32 (hv:=?_);have ht:=Dn s h;have hsp:=Fn.shared (Kf (oq s) 10 (by have:=Nk s;omega));have hls:=I_ s;have hb:=rB s;unfold gg pH;by_cases h0:s=[]
 . subst h0;rw [if_pos rfl] at hls;have e1:(decide (([]:lU).length<=3000)&&decide ((dx []).length<=50))=true:=(by rw [←hls];rfl);rw [if_pos e1,if_pos e1,←hls];clear e1 hls hb;have d0:decide (([]:lU)=[])=true:=rfl;have d1:decide ((0:Int)>3000)=false:=rfl;have d2:decide ((0:Int)>50)=false:=rfl;have et:oq []=[]:=rfl;rw [et] at ht hsp;have en:eQ []=(QI,[]):=rfl;rw [en];simp -dsimp -implicitDefEqProofs only [go_sem];refine aa ht ?_;simp -dsimp -implicitDefEqProofs only [go_sem];refine av hsp (by simp [ax,ao,aF]) ?_;simp -dsimp -implicitDefEqProofs only [go_sem,d1,d2,uq7];refine aj.up [2,6,27,28] [35,36,37] [26,6,500,501] 0 (λ_=>True) (λ_=>[(29,eI 0),(7,.ref 26 0 0 0)]) (λ_=>[(26,.row 0 ⟨1,false⟩ true []),(6,.box 0 [eI 4,eI 5,eI 3,eI 2,eI 2,.ref 500 0 0 0,.ref 501 0 0 0]),(500,.row 0 ⟨1,false⟩ true []),(501,.row 0 ⟨1,false⟩ true [])]) trivial ?_ rfl (λi hi _=>absurd hi (Nat.not_lt_zero _)) (λ_=> ?_)
   . simp -dsimp -implicitDefEqProofs only[go_sem]
   have dz:decide ((0:Int)<0)=false:=rfl;unfold QI;simp -dsimp -implicitDefEqProofs only[go_sem,dz,List.take_nil];((with_reducible and_intros);all_goals try exact rfl);all_goals (first|(simp;done)|skip)
 rw[if_neg h0] at hls;rw[hls] at hsp;have d0:decide (s=[])=false:=dF h0;have l0:¬s.length=0:=λe=>h0 (List.eq_nil_of_length_eq_zero e);generalize hL:dx s=ls at*;rcases d1:decide ((s.length:Int)>3000) with _|_
 . have d1':=of_decide_eq_false d1;rcases d2:decide ((ls.length:Int)>50) with _|_
   . have d2':=of_decide_eq_false d2;have e1:(decide (s.length<=3000)&&decide (ls.length<=50))=true:=(by simp only [uq0,decide_eq_true_eq];omega);rw [if_pos e1,if_pos e1];simp -dsimp -implicitDefEqProofs only [go_sem];refine aa ht ?_;simp -dsimp -implicitDefEqProofs only [go_sem];refine av hsp (by simp [ax,ao,aF]) ?_;simp -dsimp -implicitDefEqProofs only [go_sem,d0,d1,d2]
     refine aj.up [2,6,27,28] [35,36,37] [26,6,500,501] ls.length (λ_=>True) (λi=>[(29,eI i),(7,.ref 26 0 0 i)])
      (λi=>[(26,.row 0 ⟨1,false⟩ true ((eQ (ls.take i)).2.map eS)),(6,.box 0 [eI (eQ (ls.take i)).1.m.ae,eI (eQ (ls.take i)).1.m.ak,eI (eQ (ls.take i)).1.m.step,eI (eQ (ls.take i)).1.m.same,eI (eQ (ls.take i)).1.m.least,.ref 500 0 0 (eQ (ls.take i)).1.a.length,.ref 501 0 0 (eQ (ls.take i)).1.k.length]),
        (500,.row 0 ⟨1,false⟩ true ((eQ (ls.take i)).1.a.map aM)),(501,.row 0 ⟨1,false⟩ true ((eQ (ls.take i)).1.k.map aM))]) trivial ?_ rfl (λi hi _=>?_) (λ_=>?_)
     . rw[bp,zn];unfold QI;simp -dsimp -implicitDefEqProofs only[go_sem,uq7,bk]
     . have gi:=get_some hi;have li:=aE hi;have cH:=Nj (eQ (ls.take i)).1 (zo ls i) ls[i] (by have:=hb.2 _ (uq4 hi);omega) 0 0;have hst:=uu hi;unfold zm at hst;have hl1:(eQ (ls.take i)).2.length=i:=(by rw [Dy];simp;omega);rw [hst];clear hst;generalize eQ (ls.take i)=p at*;generalize ls[i]=l at*;generalize mX p.1 l=r at*;have tP:(p.2.map eS).take i=p.2.map eS:=a_ (by simp;omega);have eM:(p.2++[r.2]).map eS=p.2.map eS++[eS r.2]:=(by simp);rw [eM];simp only [zV,gU] at cH;simp -dsimp -implicitDefEqProofs only [go_sem,gi,li];((with_reducible and_intros);all_goals try omega);refine jl 1900000000 cH ⟨?_,?_⟩ ⟨⟨?_,?_⟩,?_,?_⟩ ?_
       . simp -dsimp -implicitDefEqProofs only[go_sem]
       . simp -dsimp -implicitDefEqProofs only[go_sem]
       . simp -dsimp -implicitDefEqProofs only[go_sem]
       . simp -dsimp -implicitDefEqProofs only[go_sem];all_goals try (simp;done)
       . simp -dsimp -implicitDefEqProofs only[go_sem,uq6]
       . simp -dsimp -implicitDefEqProofs only[go_sem];all_goals try (simp;done)
       rintro r' m' ⟨hr,hm'⟩;rw[hr,hm'];simp -dsimp -implicitDefEqProofs only[go_sem,uq6];((with_reducible and_intros);all_goals try first|omega|(refine ⟨?_,?_⟩<;>omega)|exact rfl);all_goals first|(rw[tP];done)|(first|omega|(refine ⟨?_,?_⟩<;>omega)|exact rfl|(simp;done)|skip)
     rw[cM];have hl1:(eQ ls).2.length=ls.length:=Dy ls;generalize eQ ls=p at*;have tP:(p.2.map eS).take ls.length=p.2.map eS:=a_ (by simp;omega);have tA:(p.1.a.map aM).take p.1.a.length=p.1.a.map aM:=a_ (by simp);have tK:(p.1.k.map aM).take p.1.k.length=p.1.k.map aM:=a_ (by simp);simp -dsimp -implicitDefEqProofs only[go_sem,aA,tP,tA,tK];((with_reducible and_intros);all_goals try omega);all_goals (first|(simp;done)|skip)
   have d2':=oT d2;have e1:¬(decide (s.length<=3000)&&decide (ls.length<=50))=true:=(by simp only[uq0,decide_eq_true_eq];omega);rw[if_neg e1,if_neg e1];simp -dsimp -implicitDefEqProofs only[go_sem];refine aa ht ?_;simp -dsimp -implicitDefEqProofs only[go_sem];refine av hsp (by simp[ax,ao,aF]) ?_;simp -dsimp -implicitDefEqProofs only[go_sem,d0,d1,d2]
 have d1':=oT d1;have e1:¬(decide (s.length<=3000)&&decide (ls.length<=50))=true:=by simp only[uq0,decide_eq_true_eq];omega
 rw[if_neg e1,if_neg e1];simp -dsimp -implicitDefEqProofs only[go_sem];refine aa ht ?_;simp -dsimp -implicitDefEqProofs only[go_sem];refine av hsp (by simp[ax,ao,aF]) ?_;simp -dsimp -implicitDefEqProofs only[go_sem,d0,d1]
theorem Nl (s:lU):(gg s).2=(pH s).2:=by unfold gg pH;split<;>rfl
theorem DG (s:lU)(h:s.length<=1048576):Fn pG 8 [eS s] true (· = .aX [mg (gg s).1,eI (gg s).2]):=by refine Fn.au 15 [.cell 2 26,.tmp 3] func8 (hv:=?_);have hr:=Xy s h;rw[←Nl] at hr;generalize gg s=D at*;generalize pH s=O at*;have tA:(D.1.a.map aM).take D.1.a.length=D.1.a.map aM:=a_ (by simp);have tK:(D.1.k.map aM).take D.1.k.length=D.1.k.map aM:=a_ (by simp);simp -dsimp -implicitDefEqProofs only[go_sem];refine aa hr ?_;simp -dsimp -implicitDefEqProofs only[go_sem,tA,tK,uq6];((with_reducible and_intros));all_goals (first|(simp;done)|skip)
structure ZR (d:Dk):Prop where
 al:d.a.length<=10
 ar:∀x∈d.a,x.length<=12
 kl:d.k.length<=10
 kn:∀x∈d.k,x.length<=6
theorem G7 (xs:lI)(h:xs.length<=5)(hx:∀x∈xs,0<=x/\x<=1000):Fn pG 64 [aM xs] true (λx=>∃b:lU,b.length<=200/\x=eS b):=by
 refine Fn.nil ?_;refine Fn.cT 23 [.tmp 2] func64 (hv:=?_);simp -dsimp -implicitDefEqProofs only[go_sem];refine aj.lp [0] [7,20] [] (λx:Nat × lU=>x.1<=xs.length/\x.2.length<=x.1*30) (λx=>[(4,eI x.1),(3,eS x.2)]) (λ_=>[]) (λx=>xs.length-x.1) (0,[]) ⟨Nat.zero_le _,Nat.le_refl _⟩ ?_ rfl (λx hx2=>?_)
 . simp -dsimp -implicitDefEqProofs only[go_sem]
 obtain ⟨i,out⟩:=x;obtain ⟨x1,x2⟩:=hx2;simp only at x1 x2 ⊢;by_cases hi:i<xs.length
 . have gi:=get_some hi;have li:=aE hi;have hd:=hx _ (uq4 hi);generalize xs[i]=y at*;have c1:=cC y (by omega);have l1:=bU (v:=y) (by unfold jy;omega);obtain ⟨b0,hb0⟩:∃b,decide ((i:Int)>0)=b:=⟨_,rfl⟩;cases b0
   all_goals
    simp -dsimp -implicitDefEqProofs only[go_sem,li,gi,hb0];((with_reducible and_intros);all_goals try omega);refine aa c1 ?_;simp -dsimp -implicitDefEqProofs only[go_sem];((with_reducible and_intros);all_goals try first|omega|(refine ⟨?_,?_⟩<;>omega));all_goals first|(refine ⟨(i+1,_),⟨by omega,?_⟩,by simp only;omega,?_,rfl⟩;rotate_left;(exact rfl);(simp;omega))|skip
 have hge:decide ((i:Int)<(xs.length:Int))=false:=dF (by omega);simp -dsimp -implicitDefEqProofs only[go_sem,hge];all_goals first|(exact ⟨_,rfl,out,by omega,rfl⟩)|skip
def Xz (bs:lU)(v:Nat)(x:AV)(io:List bf):Prop:=∃(t:lU) (s:Src),dO s/\t.length<=300/\x=eS t/\io=[ki v bs s]
theorem DH (v:Nat)(bs:lU)(s:Src)(m:aJ)(doors:Int)(h:dO s)(hl:bs.length<=4096)(hm:aU m=true)(hd:1<=doors/\doors<=3):
 mc pG 39 [ki v bs s] [.ptr 1000000000 v 0 0,kj m,eI doors] (Xz bs v):=by
 unfold Xz;refine mc.cT 100 [.tmp 6] func39 (hv:=?_);have hn:=dq bs 16 h;have q16:=λv=>bu v bs 16 s h hl;generalize nx bs 16 s=a at*;obtain ⟨k,s1⟩:=a;obtain ⟨k0,_,k16,hs1⟩:=hn;have k16:=k16 (by omega);simp only at k0 k16 hs1;have tg:=aI hm;have Kx:=λv=>B8 v bs s1 m hs1 hm hl;have hct:=mU (bs:=bs) (D:=m.ak) hs1 (by omega) m.ae.toNat;obtain ⟨g1,g2,g3⟩:=hct;have hk:=F8 hm (c:=(bL bs m.ak s1 m.ae.toNat).1) (by omega) g3;obtain ⟨f1,_,_,f4⟩:=hk;have hkt:=qc (oo m (bL bs m.ak s1 m.ae.toNat).1) (by omega) λx hx=>by have:=f4 x hx;omega
 have hkl:(lf (oo m (bL bs m.ak s1 m.ae.toNat).1)).length<=8:=by rw[lf,uq6];omega
 have X1:k=0\/k=1\/k=2\/k=3\/k=4\/k=5\/k=6\/k=7\/k=8\/k=9\/k=10\/11<=k:=by omega
 rcases X1 with rfl|rfl|rfl|rfl|rfl|rfl|rfl|rfl|rfl|rfl|rfl|h11
 . clear k0 k16;have n1:=dq bs 3 hs1;have q1:=λv=>bu v bs 3 s1 hs1 hl;have b1:=n1.2.2.1 (by omega);generalize nx bs 3 s1=x1 at*;have n2:=dq bs 4 n1.2.2.2;have q2:=λv=>bu v bs 4 x1.2 n1.2.2.2 hl;have b2:=n2.2.2.1 (by omega);generalize nx bs 4 x1.2=x2 at*;have n3:=dq bs 3 n2.2.2.2;have q3:=λv=>bu v bs 3 x2.2 n2.2.2.2 hl;have b3:=n3.2.2.1 (by omega);generalize nx bs 3 x2.2=x3 at*;have n4:=dq bs 3 n3.2.2.2;have q4:=λv=>bu v bs 3 x3.2 n3.2.2.2 hl;have b4:=n4.2.2.1 (by omega);generalize nx bs 3 x3.2=x4 at*;have n5:=dq bs 3 n4.2.2.2;have q5:=λv=>bu v bs 3 x4.2 n4.2.2.2 hl;have b5:=n5.2.2.1 (by omega);generalize nx bs 3 x4.2=x5 at*;have n6:=n5.2.2.2
   have hbl:=G7 [2+x1.1,2+x2.1,1+x3.1,1+x4.1,1+x5.1] (by simp) (λy hy=>by
    simp only[List.mem_cons,List.not_mem_nil,or_false] at hy
    rcases hy with rfl|rfl|rfl|rfl|rfl<;>omega)
   simp only[aM,uq9,bk] at hbl;simp -dsimp -implicitDefEqProofs only[go_sem];(refine aR [1000000000] ?_;simp -dsimp -implicitDefEqProofs only[go_sem];refine aN (q16 _) ?_;simp -dsimp -implicitDefEqProofs only[go_sem]);(refine aR [1000000000] ?_;simp -dsimp -implicitDefEqProofs only[go_sem];refine aN (q1 _) ?_;simp -dsimp -implicitDefEqProofs only[go_sem]);((with_reducible and_intros);all_goals try ((refine ⟨?_,?_⟩<;>omega)));(refine aR [1000000000] ?_;simp -dsimp -implicitDefEqProofs only[go_sem];refine aN (q2 _) ?_;simp -dsimp -implicitDefEqProofs only[go_sem]);((with_reducible and_intros);all_goals try ((refine ⟨?_,?_⟩<;>omega)));(refine aR [1000000000] ?_;simp -dsimp -implicitDefEqProofs only[go_sem];refine aN (q3 _) ?_;simp -dsimp -implicitDefEqProofs only[go_sem]);((with_reducible and_intros);all_goals try ((refine ⟨?_,?_⟩<;>omega)));(refine aR [1000000000] ?_;simp -dsimp -implicitDefEqProofs only[go_sem];refine aN (q4 _) ?_;simp -dsimp -implicitDefEqProofs only[go_sem]);((with_reducible and_intros);all_goals try ((refine ⟨?_,?_⟩<;>omega)));(refine aR [1000000000] ?_;simp -dsimp -implicitDefEqProofs only[go_sem];refine aN (q5 _) ?_;simp -dsimp -implicitDefEqProofs only[go_sem]);((with_reducible and_intros);all_goals try ((refine ⟨?_,?_⟩<;>omega)));refine qP hbl ?_;rintro _ ⟨t,ht,rfl⟩;simp -dsimp -implicitDefEqProofs only[go_sem];((with_reducible and_intros);all_goals try omega);all_goals first|(refine ⟨_,_,?_,?_,rfl,rfl⟩<;>first|assumption|(simp;omega))|skip
 . clear k0 k16;have n1:=dq bs 4 hs1;have q1:=λv=>bu v bs 4 s1 hs1 hl;have b1:=n1.2.2.1 (by omega);generalize nx bs 4 s1=x1 at*;have n2:=n1.2.2.2;have hdc:=cC x1.1 (by omega);have hil:=bU (v:=x1.1) (by unfold jy;omega);simp -dsimp -implicitDefEqProofs only [go_sem];(refine aR [1000000000] ?_;simp -dsimp -implicitDefEqProofs only [go_sem];refine aN (q16 _) ?_;simp -dsimp -implicitDefEqProofs only [go_sem]);try simp -dsimp -implicitDefEqProofs only [go_sem,uq1]
   (refine aR [1000000000] ?_;simp -dsimp -implicitDefEqProofs only[go_sem];refine aN (q1 _) ?_;simp -dsimp -implicitDefEqProofs only[go_sem]);refine aa hdc ?_;simp -dsimp -implicitDefEqProofs only[go_sem];((with_reducible and_intros);all_goals try omega);all_goals first|(refine ⟨_,_,?_,?_,rfl,rfl⟩<;>first|assumption|(simp;omega))|skip
 . clear k0 k16;have hp:=P3 bs hs1 (xs:=[20,200,800,4001]) (by simp);have n2:=Xe bs [20,200,800,4001] hs1;have qp:=λv v2=>BY v v2 true bs [20,200,800,4001] _ s1 rfl (by simp) (by simp) hs1 hl;generalize pk bs [20,200,800,4001] s1=x1 at*;have hpb:0<=x1.1/\x1.1<=4001:=by
    simp only[List.mem_cons,List.not_mem_nil,or_false] at hp;rcases hp with e|e|e|e<;>omega
   have hdc:=cC x1.1 (by omega);have hil:=bU (v:=x1.1) (by unfold jy;omega);simp -dsimp -implicitDefEqProofs only[go_sem];(refine aR [1000000000] ?_;simp -dsimp -implicitDefEqProofs only[go_sem];refine aN (q16 _) ?_;simp -dsimp -implicitDefEqProofs only[go_sem]);try simp -dsimp -implicitDefEqProofs only[go_sem,uq1]
   refine aR [1000000000,40] ?_;simp -dsimp -implicitDefEqProofs only[go_sem];refine aN (qp _ _) ?_;simp -dsimp -implicitDefEqProofs only[go_sem];refine aa hdc ?_;simp -dsimp -implicitDefEqProofs only[go_sem];((with_reducible and_intros);all_goals try omega);all_goals first|(refine ⟨_,_,?_,?_,rfl,rfl⟩<;>first|assumption|(simp;omega))|skip
 . clear k0 k16;simp -dsimp -implicitDefEqProofs only [go_sem];(refine aR [1000000000] ?_;simp -dsimp -implicitDefEqProofs only [go_sem];refine aN (q16 _) ?_;simp -dsimp -implicitDefEqProofs only [go_sem]);try simp -dsimp -implicitDefEqProofs only [go_sem,uq1]
   all_goals first|(refine ⟨_,_,?_,?_,rfl,rfl⟩<;>first|assumption|(simp;done))|skip
 . clear k0 k16;have n1:=dq bs (doors+1) hs1;have q1:=λv=>bu v bs (doors+1) s1 hs1 hl;have b1:=n1.2.2.1 (by omega);generalize nx bs (doors+1) s1=x1 at*;have n2:=n1.2.2.2;have hdc:=cC x1.1 (by omega);have hil:=bU (v:=x1.1) (by unfold jy;omega);simp -dsimp -implicitDefEqProofs only [go_sem];(refine aR [1000000000] ?_;simp -dsimp -implicitDefEqProofs only [go_sem];refine aN (q16 _) ?_;simp -dsimp -implicitDefEqProofs only [go_sem]);try simp -dsimp -implicitDefEqProofs only [go_sem,uq1]
   ((with_reducible and_intros);all_goals try ((refine ⟨?_,?_⟩<;>omega)));(refine aR [1000000000] ?_;simp -dsimp -implicitDefEqProofs only[go_sem];refine aN (q1 _) ?_;simp -dsimp -implicitDefEqProofs only[go_sem]);refine aa hdc ?_;simp -dsimp -implicitDefEqProofs only[go_sem];((with_reducible and_intros);all_goals try omega);all_goals first|(refine ⟨_,_,?_,?_,rfl,rfl⟩<;>first|assumption|(simp;omega))|skip
 . clear k0 k16;simp -dsimp -implicitDefEqProofs only [go_sem];(refine aR [1000000000] ?_;simp -dsimp -implicitDefEqProofs only [go_sem];refine aN (q16 _) ?_;simp -dsimp -implicitDefEqProofs only [go_sem]);try simp -dsimp -implicitDefEqProofs only [go_sem,uq1]
   refine cX [1000000000] ?_;simp -dsimp -implicitDefEqProofs only[go_sem];refine bY (Kx _) ?_;rintro _ _ ⟨rfl,rfl⟩;simp -dsimp -implicitDefEqProofs only[go_sem];refine aa hkt ?_;simp -dsimp -implicitDefEqProofs only[go_sem];((with_reducible and_intros);all_goals try omega);all_goals first|(refine ⟨_,_,?_,?_,rfl,rfl⟩<;>first|assumption|(simp;omega))|skip
 . clear k0 k16;simp -dsimp -implicitDefEqProofs only [go_sem];(refine aR [1000000000] ?_;simp -dsimp -implicitDefEqProofs only [go_sem];refine aN (q16 _) ?_;simp -dsimp -implicitDefEqProofs only [go_sem]);try simp -dsimp -implicitDefEqProofs only [go_sem,uq1]
   all_goals first|(refine ⟨_,_,?_,?_,rfl,rfl⟩<;>first|assumption|(simp;done))|skip
 . clear k0 k16;simp -dsimp -implicitDefEqProofs only [go_sem];(refine aR [1000000000] ?_;simp -dsimp -implicitDefEqProofs only [go_sem];refine aN (q16 _) ?_;simp -dsimp -implicitDefEqProofs only [go_sem]);try simp -dsimp -implicitDefEqProofs only [go_sem,uq1]
   all_goals first|(refine ⟨_,_,?_,?_,rfl,rfl⟩<;>first|assumption|(simp;done))|skip
 . clear k0 k16;have n1:=dq bs 4 hs1;have q1:=λv=>bu v bs 4 s1 hs1 hl;have b1:=n1.2.2.1 (by omega);generalize nx bs 4 s1=x1 at*;have n2:=dq bs 400 n1.2.2.2;have q2:=λv=>bu v bs 400 x1.2 n1.2.2.2 hl;have b2:=n2.2.2.1 (by omega);generalize nx bs 400 x1.2=x2 at*;have n3:=n2.2.2.2;have d1:=cC x1.1 (by omega);have i1:=bU (v:=x1.1) (by unfold jy;omega);have d2:=cC x2.1 (by omega);have i2:=bU (v:=x2.1) (by unfold jy;omega);simp -dsimp -implicitDefEqProofs only [go_sem];(refine aR [1000000000] ?_;simp -dsimp -implicitDefEqProofs only [go_sem];refine aN (q16 _) ?_;simp -dsimp -implicitDefEqProofs only [go_sem]);try simp -dsimp -implicitDefEqProofs only [go_sem,uq1]
   (refine aR [1000000000] ?_;simp -dsimp -implicitDefEqProofs only[go_sem];refine aN (q1 _) ?_;simp -dsimp -implicitDefEqProofs only[go_sem]);refine aa d1 ?_;simp -dsimp -implicitDefEqProofs only[go_sem];((with_reducible and_intros);all_goals try omega);(refine aR [1000000000] ?_;simp -dsimp -implicitDefEqProofs only[go_sem];refine aN (q2 _) ?_;simp -dsimp -implicitDefEqProofs only[go_sem]);refine aa d2 ?_;simp -dsimp -implicitDefEqProofs only[go_sem];((with_reducible and_intros);all_goals try omega);all_goals first|(refine ⟨_,_,?_,?_,rfl,rfl⟩<;>first|assumption|(simp;omega))|skip
 . clear k0 k16;simp -dsimp -implicitDefEqProofs only [go_sem];(refine aR [1000000000] ?_;simp -dsimp -implicitDefEqProofs only [go_sem];refine aN (q16 _) ?_;simp -dsimp -implicitDefEqProofs only [go_sem]);try simp -dsimp -implicitDefEqProofs only [go_sem,uq1]
   all_goals first|(refine ⟨_,_,?_,?_,rfl,rfl⟩<;>first|assumption|(simp;done))|skip
 . clear k0 k16;simp -dsimp -implicitDefEqProofs only [go_sem];(refine aR [1000000000] ?_;simp -dsimp -implicitDefEqProofs only [go_sem];refine aN (q16 _) ?_;simp -dsimp -implicitDefEqProofs only [go_sem]);try simp -dsimp -implicitDefEqProofs only [go_sem,uq1]
   all_goals first|(refine ⟨_,_,?_,?_,rfl,rfl⟩<;>first|assumption|(simp;done))|skip
 clear Kx g1 g2 g3 f1 f4 hkt hkl;have c0:(k==0)=false:=beq_eq_false_iff_ne.2 (by omega);have c1:(k==1)=false:=beq_eq_false_iff_ne.2 (by omega);have c2:(k==2)=false:=beq_eq_false_iff_ne.2 (by omega);have c3:(k==3)=false:=beq_eq_false_iff_ne.2 (by omega);have c4:(k==4)=false:=beq_eq_false_iff_ne.2 (by omega);have c5:(k==5)=false:=beq_eq_false_iff_ne.2 (by omega);have c6:(k==6)=false:=beq_eq_false_iff_ne.2 (by omega);have c7:(k==7)=false:=beq_eq_false_iff_ne.2 (by omega);have c8:(k==8)=false:=beq_eq_false_iff_ne.2 (by omega);have c9:(k==9)=false:=beq_eq_false_iff_ne.2 (by omega);have c10:(k==10)=false:=beq_eq_false_iff_ne.2 (by omega);obtain ⟨D,rfl⟩:∃D:Nat,doors=D:=⟨doors.toNat,by omega⟩;simp -dsimp -implicitDefEqProofs only[go_sem];(refine aR [1000000000] ?_;simp -dsimp -implicitDefEqProofs only[go_sem];refine aN (q16 _) ?_;simp -dsimp -implicitDefEqProofs only[go_sem]);simp -dsimp -implicitDefEqProofs only[go_sem,c0,c1,c2,c3,c4,c5,c6,c7,c8,c9,c10];have hb:=λi=>mU (bs:=bs) (D:=2) hs1 (by omega) i;refine aj.up [0,2,4] [88,89,90] [80,1000000000] D (λ_=>True) (λi=>[(8,eI i),(7,.ref 80 0 0 (bL bs 2 s1 i).1.length)]) (λi=>[(80,.row 0 ⟨1,false⟩ true ((bL bs 2 s1 i).1.map eI)),(1000000000,ki v bs (bL bs 2 s1 i).2)]) trivial ?_ rfl (λi hi _=>?_) (λ_=>?_)
 . simp -dsimp -implicitDefEqProofs only[go_sem];all_goals first|(simp[bL];done)|(first|omega|(refine ⟨?_,?_⟩<;>omega)|exact rfl|(simp;done)|skip)
 . have hlt:decide ((i:Int)<(D:Int))=true:=dT (by omega);obtain ⟨h1,h2,h3⟩:=hb i;have q:=λv=>bu v bs 2 _ h1 hl;have Ha:bL bs 2 s1 (i+1)=((bL bs 2 s1 i).1++[(nx bs 2 (bL bs 2 s1 i).2).1],(nx bs 2 (bL bs 2 s1 i).2).2):=rfl;rw[Ha];clear Ha hb;generalize nx bs 2 (bL bs 2 s1 i).2=a at*;generalize bL bs 2 s1 i=p at*;have htk:List.take p.1.length (uq8 eI p.1)=uq8 eI p.1:=a_ (by simp);simp -dsimp -implicitDefEqProofs only[go_sem,hlt];(refine aR [1000000000] ?_;simp -dsimp -implicitDefEqProofs only[go_sem];refine aN (q _) ?_;simp -dsimp -implicitDefEqProofs only[go_sem]);((with_reducible and_intros);all_goals try first|omega|(refine ⟨?_,?_⟩<;>omega)|exact rfl);all_goals first|(simp;done)|(first|omega|(refine ⟨?_,?_⟩<;>omega)|exact rfl|(simp;done)|skip)
 have hlt:decide (((D:Nat):Int)<(D:Int))=false:=dF (by omega);obtain ⟨h1,h2,h3⟩:=hb D;clear hb;have hrt:=qc (bL bs 2 s1 D).1 (by omega) λx hx=>by have:=h3 x hx;omega
 have hrl:(lf (bL bs 2 s1 D).1).length<=8:=by rw[lf,uq6];omega
 generalize bL bs 2 s1 D=p at*;have tP:(p.1.map eI).take p.1.length=p.1.map eI:=a_ (by simp);have Kx:=λv=>B8 v bs p.2 m h1 hm hl;have hct:=mU (bs:=bs) (D:=m.ak) h1 (by omega) m.ae.toNat;obtain ⟨g1,g2,g3⟩:=hct;have hk:=F8 hm (c:=(bL bs m.ak p.2 m.ae.toNat).1) (by omega) g3;obtain ⟨f1,_,_,f4⟩:=hk;have hkt:=qc (oo m (bL bs m.ak p.2 m.ae.toNat).1) (by omega) λx hx=>by have:=f4 x hx;omega
 have hkl:(lf (oo m (bL bs m.ak p.2 m.ae.toNat).1)).length<=8:=by rw[lf,uq6];omega
 simp -dsimp -implicitDefEqProofs only[go_sem,hlt];refine cX [1000000000] ?_;simp -dsimp -implicitDefEqProofs only[go_sem];refine bY (Kx _) ?_;rintro _ _ ⟨rfl,rfl⟩;simp -dsimp -implicitDefEqProofs only[go_sem];refine aa hkt ?_;simp -dsimp -implicitDefEqProofs only[go_sem];((with_reducible and_intros);all_goals try omega);refine aa hrt ?_;simp -dsimp -implicitDefEqProofs only[go_sem];((with_reducible and_intros);all_goals try omega);all_goals first|(refine ⟨_,_,?_,?_,rfl,rfl⟩<;>first|assumption|(simp;omega))|skip
def XA (bs:lU)(v:Nat)(x:AV)(io:List bf):Prop:=∃(t:lU) (s:Src),dO s/\t.length<=5000/\x=eS t/\io=[ki v bs s]
theorem uw (v:Nat)(bs:lU)(s:Src)(h:dO s)(hl:bs.length<=4096):
 mc pG 37 [ki v bs s] [.ptr 1000000000 v 0 0] (XA bs v):=by
 unfold XA;refine mc.cT 58 [.tmp 2] func37 (hv:=?_);have n1:=dq bs 3 h;have q1:=λv=>bu v bs 3 s h hl;have b1:=n1.2.2.1 (by omega);generalize nx bs 3 s=x1 at*;have n2:=dq bs 12 n1.2.2.2;have q2:=λv=>bu v bs 12 x1.2 n1.2.2.2 hl;have b2:=n2.2.2.1 (by omega);generalize nx bs 12 x1.2=x2 at*;have n3:=n2.2.2.2;simp -dsimp -implicitDefEqProofs only[go_sem];refine av zr (by exact True.intro) ?_;simp -dsimp -implicitDefEqProofs only[go_sem];(refine aR [1000000000] ?_;simp -dsimp -implicitDefEqProofs only[go_sem];refine aN (q1 _) ?_;simp -dsimp -implicitDefEqProofs only[go_sem]);((with_reducible and_intros);all_goals try ((refine ⟨?_,?_⟩<;>omega)));(refine aR [1000000000] ?_;simp -dsimp -implicitDefEqProofs only[go_sem];refine aN (q2 _) ?_;simp -dsimp -implicitDefEqProofs only[go_sem]);have hx0:((x2.1.toNat:Nat):Int)=x2.1:=Int.toNat_of_nonneg n2.1
 refine aj.lp [0,4,5] [8,25,27,31,35] [4,1000000000] (λx:Nat × lU × Dk × Src=>dO x.2.2.2/\kt x.2.2.1=true/\x.2.1.length+x.1*302<=3700) (λx=>[(6,eI x.1),(3,eS x.2.1)])
  (λx=>[(4,.box 0 [eI x.2.2.1.m.ae,eI x.2.2.1.m.ak,eI x.2.2.1.m.step,eI x.2.2.1.m.same,eI x.2.2.1.m.least,aQ x.2.2.1.a,aQ x.2.2.1.k]),(1000000000,ki v bs x.2.2.2)]) (λx=>x.1) (x2.1.toNat,[],QI,x2.2) ⟨n3,rfl,by simp only[uq7];omega⟩ ?_ rfl (λx hx=>?_)
 . rw[hx0];simp -dsimp -implicitDefEqProofs only[go_sem]
 obtain ⟨n,t,d,s'⟩:=x;obtain ⟨h1,h2,h3⟩:=hx;simp only at h1 h2 h3 ⊢;by_cases hn:0<n
 . have c0:decide ((n:Int)>0)=true:=dT (by omega);simp -dsimp -implicitDefEqProofs only [go_sem,c0];refine cX [1000000000] ?_;simp -dsimp -implicitDefEqProofs only [go_sem];refine bY (DH _ bs s' d.m (1+x1.1) h1 hl (Wz h2).oE (by omega)) ?_;rintro _ _ ⟨l,s2,hs2,hll,rfl,rfl⟩;have n4:=dq bs 16 hs2;have q4:=λv=>bu v bs 16 s2 hs2 hl;generalize nx bs 16 s2=x4 at*;have n5:=n4.2.2.2;have qd:=λv=>Gm v bs l x4.2 n5 hl (by omega);have od:=MX bs l n5;generalize pB bs l x4.2=x5 at*;obtain ⟨od1,od2⟩:=od;simp -dsimp -implicitDefEqProofs only [go_sem];(refine aR [1000000000] ?_;simp -dsimp -implicitDefEqProofs only [go_sem];refine aN (q4 _) ?_;simp -dsimp -implicitDefEqProofs only [go_sem]);by_cases hz:x4.1=0
   . have ez:(x4.1==0)=true:=beq_iff_eq.2 hz;have hr:=zq d h2 x5.1 (by omega);have ok2:=Jm h2 x5.1;generalize mX d x5.1=X at*;simp -dsimp -implicitDefEqProofs only[go_sem,ez];(refine aR [1000000000] ?_;simp -dsimp -implicitDefEqProofs only[go_sem];refine aN (qd _) ?_;simp -dsimp -implicitDefEqProofs only[go_sem]);refine av hr (by simp[ax,ao,aq,aF]) ?_;simp -dsimp -implicitDefEqProofs only[go_sem];((with_reducible and_intros);all_goals try first|omega|(refine ⟨?_,?_⟩<;>omega));refine ⟨(n-1,_,X.1,x5.2),⟨od1,ok2,?_⟩,?_,⟨?_,rfl⟩,?_,rfl,rfl⟩;all_goals first|(show n-1<n;omega)|(show Value.int .i64 ((n:Int)-1)=Value.int .i64 ((n-1:Nat):Int);rw[show ((n-1:Nat):Int)=(n:Int)-1 by omega])|(exact ⟨rfl,rfl,rfl,rfl,rfl,rfl,rfl⟩)|(simp;omega)|skip
   have ez:(x4.1==0)=false:=(by simpa using hz);have hr:=zq d h2 l (by omega);have ok2:=Jm h2 l;generalize mX d l=X at*;simp -dsimp -implicitDefEqProofs only[go_sem,ez];refine av hr (by simp[ax,ao,aq,aF]) ?_;simp -dsimp -implicitDefEqProofs only[go_sem];((with_reducible and_intros);all_goals try first|omega|(refine ⟨?_,?_⟩<;>omega));refine ⟨(n-1,_,X.1,x4.2),⟨n5,ok2,?_⟩,?_,⟨?_,rfl⟩,?_,rfl,rfl⟩;all_goals first|(show n-1<n;omega)|(show Value.int .i64 ((n:Int)-1)=Value.int .i64 ((n-1:Nat):Int);rw[show ((n-1:Nat):Int)=(n:Int)-1 by omega])|(exact ⟨rfl,rfl,rfl,rfl,rfl,rfl,rfl⟩)|(simp;omega)|skip
 obtain rfl:n=0:=by omega
 have c0:decide ((0:Int)>0)=false:=rfl;have c1:((0:Nat):Int)=0:=rfl;have n4:=dq bs 40 h1;have q4:=λv=>bu v bs 40 s' h1 hl;generalize nx bs 40 s'=x4 at*;have n5:=n4.2.2.2;simp -dsimp -implicitDefEqProofs only[go_sem,c0,c1];(refine aR [1000000000] ?_;simp -dsimp -implicitDefEqProofs only[go_sem];refine aN (q4 _) ?_;simp -dsimp -implicitDefEqProofs only[go_sem]);by_cases z0:x4.1=0
 . have ez:(x4.1==0)=true:=beq_iff_eq.2 z0;simp -dsimp -implicitDefEqProofs only [go_sem,ez];refine aj.lp [] [] [1000000000] (λx:Nat × lU=>x.1<=45/\x.2.length+(45-x.1)*6<=4000) (λx=>[(10,eI x.1),(3,eS x.2)]) (λ_=>[(1000000000,ki v bs x4.2)]) (λx=>45-x.1) (0,t) ⟨by omega,by simp only;omega⟩ ?_ rfl (λx hx=> ?_)
   . simp -dsimp -implicitDefEqProofs only[go_sem]
   obtain ⟨k,u⟩:=x;obtain ⟨k1,k2⟩:=hx;simp only at k1 k2 ⊢;by_cases hk:k<45
   . have c2:decide ((k:Int)<45)=true:=dT (by omega);simp -dsimp -implicitDefEqProofs only [o6,mN,kV,sF,sG,o7,yj,b7,beq_self_eq_true,Bool.false_eq_true,Bool.or_false,↓reduceIte,List.cons_append,List.nil_append];simp -dsimp -implicitDefEqProofs only [go_sem,c2];((with_reducible and_intros);all_goals try first|omega|(refine ⟨?_,?_⟩<;>omega));refine ⟨(k+1,_),⟨by omega,?_⟩,by simp only;omega,?_,rfl⟩
     rotate_left
     . exact rfl
     simp only[List.length_append,uq5,uq7];omega
   have c2:decide ((k:Int)<45)=false:=dF (by omega);simp -dsimp -implicitDefEqProofs only[o6,mN,kV,sF,sG,o7,yj,b7,beq_self_eq_true,Bool.false_eq_true,Bool.or_false,↓reduceIte,List.cons_append,List.nil_append];simp -dsimp -implicitDefEqProofs only[go_sem,c2];all_goals first|(exact ⟨_,_,n5,by omega,rfl,rfl⟩)|skip
 have ez:(x4.1==0)=false:=by simpa using z0
 by_cases z1:x4.1=1
 . have e1:(x4.1==1)=true:=beq_iff_eq.2 z1;simp -dsimp -implicitDefEqProofs only[go_sem,ez,e1];((with_reducible and_intros);all_goals try omega);all_goals first|(exact ⟨_,_,n5,by simp only[List.length_append];simp;omega,rfl,rfl⟩)|skip
 have e1:(x4.1==1)=false:=by simpa using z1
 simp -dsimp -implicitDefEqProofs only[go_sem,ez,e1];all_goals first|(exact ⟨_,_,n5,by omega,rfl,rfl⟩)|skip
theorem Nn (bs:lU)(hl:bs.length<=4096):Fn pG 13 [VK bs] false (λx=>∃t:lU,t.length<=5000/\x=eS t):=by
 refine Fn.bP 6 [.tmp 2] func13 (hv:=?_);simp -dsimp -implicitDefEqProofs only[go_sem];(refine bJ 900000 34 [.tmp 2] func38 rfl rfl rfl rfl rfl (by exact oT rfl) ?_;simp -dsimp -implicitDefEqProofs only[go_sem];refine aj.up [0,3] [10] [7] (min bs.length 64) (λ_=>True) (λi=>[(4,eI i)]) (λi=>[(7,ki 0 bs ⟨fj bs i,0⟩)]) trivial ?_ rfl (λi hi _=>?_) (λ_=>?_))
 . simp -dsimp -implicitDefEqProofs only[go_sem];simp[fj]
 . ((have h1:i<bs.length:=by omega);(have h2:i<64:=by omega);(have hs:=mT bs i);(have hb:=(bs[i]).toNat_lt);(have d1:=aE h1);(have d2:decide ((i:Int)<64)=true:=dT (by omega));(have g1:=get_some h1);(have e1:=pg h1);simp -dsimp -implicitDefEqProofs only[pz,b7,eR,cE,↓reduceIte,dh];rw[e1];generalize bs[i]=b at*;generalize fj bs i=z at*;simp -dsimp -implicitDefEqProofs only[go_sem,d1,d2];refine aj.draw mixed rfl ?_;simp -dsimp -implicitDefEqProofs only[go_sem,g1];(with_reducible and_intros);all_goals (first|omega|(refine ⟨?_,?_⟩<;>omega)|exact rfl|skip))
 (have hs:=De bs);(have hq:(⟨fj bs (min bs.length 64),0⟩:Src)=IK bs:=rfl);rw[hq];clear hq;generalize IK bs=s at*;(have d64:decide (((64:Nat):Int)<64)=false:=rfl);rcases Nat.lt_or_ge 64 bs.length with h64|h64
 case' inl=>(rw[Nat.min_eq_right (Nat.le_of_lt h64)];simp -dsimp -implicitDefEqProofs only[pz,b7,eR,cE,↓reduceIte,dh];simp -dsimp -implicitDefEqProofs only[go_sem,aE h64,d64])
 case' inr=>(rw[Nat.min_eq_left h64];simp -dsimp -implicitDefEqProofs only[pz,b7,eR,cE,↓reduceIte,dh];simp -dsimp -implicitDefEqProofs only[go_sem,aA])
 all_goals
  refine cX [900007] ?_;simp -dsimp -implicitDefEqProofs only[go_sem];refine bY (uw _ bs s hs hl) ?_;rintro _ _ ⟨t,s2,o1,o2,rfl,rfl⟩;simp -dsimp -implicitDefEqProofs only[go_sem];all_goals first|(exact ⟨t,o2,rfl⟩)|skip
theorem wb (bs:lU)(hl:bs.length<=4096):Fn pG 20 [VK bs] false (λx=>∃t:lU,t.length<=5000/\x=eS t):=by
 refine Fn.bP 6 [.tmp 2] func20 (hv:=?_);simp -dsimp -implicitDefEqProofs only[go_sem];(refine bJ 900000 34 [.tmp 2] func38 rfl rfl rfl rfl rfl (by exact oT rfl) ?_;simp -dsimp -implicitDefEqProofs only[go_sem];refine aj.up [0,3] [10] [7] (min bs.length 64) (λ_=>True) (λi=>[(4,eI i)]) (λi=>[(7,ki 0 bs ⟨fj bs i,0⟩)]) trivial ?_ rfl (λi hi _=>?_) (λ_=>?_))
 . simp -dsimp -implicitDefEqProofs only[go_sem];simp[fj]
 . ((have h1:i<bs.length:=by omega);(have h2:i<64:=by omega);(have hs:=mT bs i);(have hb:=(bs[i]).toNat_lt);(have d1:=aE h1);(have d2:decide ((i:Int)<64)=true:=dT (by omega));(have g1:=get_some h1);(have e1:=pg h1);simp -dsimp -implicitDefEqProofs only[pz,b7,eR,cE,↓reduceIte,dh];rw[e1];generalize bs[i]=b at*;generalize fj bs i=z at*;simp -dsimp -implicitDefEqProofs only[go_sem,d1,d2];refine aj.draw mixed rfl ?_;simp -dsimp -implicitDefEqProofs only[go_sem,g1];(with_reducible and_intros);all_goals (first|omega|(refine ⟨?_,?_⟩<;>omega)|exact rfl|skip))
 (have hs:=De bs);(have hq:(⟨fj bs (min bs.length 64),0⟩:Src)=IK bs:=rfl);rw[hq];clear hq;generalize IK bs=s at*;(have d64:decide (((64:Nat):Int)<64)=false:=rfl);rcases Nat.lt_or_ge 64 bs.length with h64|h64
 case' inl=>(rw[Nat.min_eq_right (Nat.le_of_lt h64)];simp -dsimp -implicitDefEqProofs only[pz,b7,eR,cE,↓reduceIte,dh];simp -dsimp -implicitDefEqProofs only[go_sem,aE h64,d64])
 case' inr=>(rw[Nat.min_eq_left h64];simp -dsimp -implicitDefEqProofs only[pz,b7,eR,cE,↓reduceIte,dh];simp -dsimp -implicitDefEqProofs only[go_sem,aA])
 all_goals
  refine cX [900007] ?_;simp -dsimp -implicitDefEqProofs only[go_sem];refine bY (uw _ bs s hs hl) ?_;rintro _ _ ⟨t,s2,o1,o2,rfl,rfl⟩;simp -dsimp -implicitDefEqProofs only[go_sem];all_goals first|(exact ⟨t,o2,rfl⟩)|skip
theorem QS (s:lU):Ww (gg s).1.m/\(gg s).1.a.length<=10/\(∀x∈(gg s).1.a,x.length<=12)/\(gg s).1.k.length<=10/\∀x∈(gg s).1.k,x.length<=12:=by
 unfold gg;split
 . have hF:=Wz (DF (dx s));exact ⟨VP hF.oE,hF.al,hF.ar,by have:=hF.al;have:=hF.kl;simp only;omega,λx hx=>by have:=hF.kn x hx;omega⟩
 exact ⟨⟨by decide,by decide,by decide,by decide,by decide⟩,by simp,by simp,by simp,by simp⟩
def XB (x:AV):Prop:=∃(m:aJ) (a k:lL),a.length<=20/\(∀x∈a,x.length<=20)/\k.length<=20/\(∀x∈k,x.length<=20)/\x=Nx m a k
theorem DI (bs:lU)(hl:bs.length<=4096):Fn pG 21 [VK bs] false XB:=by
 unfold XB;refine Fn.uh (Fn.mono (post:=λx=>∃r,su x r/\∃(m:aJ) (a k:lL),a.length<=20/\(∀x∈a,x.length<=20)/\k.length<=20/\(∀x∈k,x.length<=20)/\r=Nx m a k) (Fn.bP 51 [.cell 2 26] func21 (hv:=?_)) λx hx=>hx);simp -dsimp -implicitDefEqProofs only[go_sem];(refine bJ 900000 34 [.tmp 2] func38 rfl rfl rfl rfl rfl (by exact oT rfl) ?_;simp -dsimp -implicitDefEqProofs only[go_sem];refine aj.up [0,3] [10] [7] (min bs.length 64) (λ_=>True) (λi=>[(4,eI i)]) (λi=>[(7,ki 0 bs ⟨fj bs i,0⟩)]) trivial ?_ rfl (λi hi _=>?_) (λ_=>?_))
 . simp -dsimp -implicitDefEqProofs only[go_sem];simp[fj]
 . ((have h1:i<bs.length:=by omega);(have h2:i<64:=by omega);(have hs:=mT bs i);(have hb:=(bs[i]).toNat_lt);(have d1:=aE h1);(have d2:decide ((i:Int)<64)=true:=dT (by omega));(have g1:=get_some h1);(have e1:=pg h1);simp -dsimp -implicitDefEqProofs only[pz,b7,eR,cE,↓reduceIte,dh];rw[e1];generalize bs[i]=b at*;generalize fj bs i=z at*;simp -dsimp -implicitDefEqProofs only[go_sem,d1,d2];refine aj.draw mixed rfl ?_;simp -dsimp -implicitDefEqProofs only[go_sem,g1];(with_reducible and_intros);all_goals (first|omega|(refine ⟨?_,?_⟩<;>omega)|exact rfl|skip))
 (have hs:=De bs);(have hq:(⟨fj bs (min bs.length 64),0⟩:Src)=IK bs:=rfl);rw[hq];clear hq;generalize IK bs=s at*;(have d64:decide (((64:Nat):Int)<64)=false:=rfl);rcases Nat.lt_or_ge 64 bs.length with h64|h64
 case' inl=>(rw[Nat.min_eq_right (Nat.le_of_lt h64)];simp -dsimp -implicitDefEqProofs only[pz,b7,eR,cE,↓reduceIte,dh];simp -dsimp -implicitDefEqProofs only[go_sem,aE h64,d64])
 case' inr=>(rw[Nat.min_eq_left h64];simp -dsimp -implicitDefEqProofs only[pz,b7,eR,cE,↓reduceIte,dh];simp -dsimp -implicitDefEqProofs only[go_sem,aA])
 all_goals
  refine cX [900007] ?_;simp -dsimp -implicitDefEqProofs only[go_sem];refine bY (uw _ bs s hs hl) ?_;rintro _ _ ⟨t,s2,o1,o2,rfl,rfl⟩;have cd:=s_ t (by omega);have hd:=QS t;generalize (gg t).2=code at*;generalize (gg t).1=d at*;obtain ⟨d1,d2,d3,d4,d5⟩:=hd;have n4:=dq bs 12 o1;have q4:=λv=>bu v bs 12 s2 o1 hl;generalize nx bs 12 s2=x4 at*;have n5:=n4.2.2.2;simp -dsimp -implicitDefEqProofs only[go_sem];refine av cd (by simp[ax,ao,aF]) ?_;simp -dsimp -implicitDefEqProofs only[go_sem];(refine aR [900007] ?_;simp -dsimp -implicitDefEqProofs only[go_sem];refine aN (q4 _) ?_;simp -dsimp -implicitDefEqProofs only[go_sem]);by_cases z0:x4.1=0
  . have ez:(x4.1==0)=true:=beq_iff_eq.2 z0;have hp:=P3 bs n5 (xs:=[0,1,9]) (by simp);have qp:=λv v2=>BY v v2 true bs [0,1,9] _ x4.2 rfl (by simp) (by simp) n5 hl;generalize pk bs [0,1,9] x4.2=x1 at*;simp -dsimp -implicitDefEqProofs only[go_sem,ez];refine aR [900007,19] ?_;simp -dsimp -implicitDefEqProofs only[go_sem];refine aN (qp _ _) ?_;simp -dsimp -implicitDefEqProofs only[go_sem];refine ⟨Nx ⟨d.m.ae,d.m.ak,x1.1,d.m.same,d.m.least⟩ d.a d.k,?_,⟨d.m.ae,d.m.ak,x1.1,d.m.same,d.m.least⟩,d.a,d.k,by omega,λx hx=>by have:=d3 x hx;omega,by omega,λx hx=>by have:=d5 x hx;omega,rfl⟩;simp -dsimp -implicitDefEqProofs only[go_sem]
  have ez:(x4.1==0)=false:=by simpa using z0
  by_cases z1:x4.1=1
  . have e1:(x4.1==1)=true:=beq_iff_eq.2 z1;have hl1:=l5 d.a (by omega) (λx hx=>by have:=d3 x hx;omega);have hl2:=l5 d.k (by omega) (λx hx=>by have:=d5 x hx;omega);have t1:(d.a.map aM).take d.a.length=d.a.map aM:=a_ (by simp);have t2:(d.k.map aM).take d.k.length=d.k.map aM:=a_ (by simp);have qd:=λv=>zP v bs d.m x4.2 d1 n5 hl;have od:=Qc (bs:=bs) d1 n5;generalize yX bs d.m x4.2=X at*;obtain ⟨od1,od2⟩:=od;simp -dsimp -implicitDefEqProofs only [go_sem,ez,e1];refine aj.draw mixed rfl ?_;simp -dsimp -implicitDefEqProofs only [go_sem];refine ik hl1 (by decide) rfl (by decide) ?_;simp -dsimp -implicitDefEqProofs only [go_sem,t1];refine .inr ⟨by omega,?_⟩;refine ik hl2 (by decide) rfl (by decide) ?_;simp -dsimp -implicitDefEqProofs only [go_sem];(refine tH [900007] rfl ?_;simp -dsimp -implicitDefEqProofs only [go_sem];refine o5 (qd _) ?_;simp -dsimp -implicitDefEqProofs only [go_sem]);refine .inr ⟨by omega,?_⟩;((with_reducible and_intros);all_goals try exact rfl);have t3:(d.a.map aM++[aM [1,1,1,0]]).take (d.a.length+1)=d.a.map aM++[aM [1,1,1,0]]:=a_ (by simp);have t4:(d.k.map aM++[aM X.1]).take (d.k.length+1)=d.k.map aM++[aM X.1]:=a_ (by simp);have m1:(d.a++[[1,1,1,0]]).map aM=d.a.map aM++[aM [1,1,1,0]]:=(by simp);have m2:(d.k++[X.1]).map aM=d.k.map aM++[aM X.1]:=(by simp);refine ⟨Nx d.m (d.a++[[1,1,1,0]]) (d.k++[X.1]),?_,d.m,_,_,by simp;omega,λx hx=> ?_,by simp;omega,λx hx=> ?_,rfl⟩
    . unfold Nx aQ;rw[m1,m2];simp -dsimp -implicitDefEqProofs only[go_sem,t4];all_goals first|(exact congrArg (AV.arr ⟨1,false⟩) t3)|(first|omega|(refine ⟨?_,?_⟩<;>omega)|exact rfl|(simp;done)|skip)
    . rcases dL.1 hx with hx|hx
      . have:=d3 x hx;omega
      rw[dE] at hx;subst hx;simp
    rcases dL.1 hx with hx|hx
    . have:=d5 x hx;omega
    rw[dE] at hx;subst hx;omega
  have e1:(x4.1==1)=false:=by simpa using z1
  by_cases z2:x4.1=2
  . have e2:(x4.1==2)=true:=beq_iff_eq.2 z2;simp -dsimp -implicitDefEqProofs only[go_sem,ez,e1,e2];refine ⟨Nx d.m d.a [],?_,d.m,d.a,[],by omega,λx hx=>by have:=d3 x hx;omega,by simp,by simp,rfl⟩;simp -dsimp -implicitDefEqProofs only[go_sem]
  have e2:(x4.1==2)=false:=by simpa using z2
  simp -dsimp -implicitDefEqProofs only[go_sem,ez,e1,e2];refine ⟨Nx d.m d.a d.k,?_,d.m,d.a,d.k,by omega,λx hx=>by have:=d3 x hx;omega,by omega,λx hx=>by have:=d5 x hx;omega,rfl⟩;simp -dsimp -implicitDefEqProofs only[go_sem]
theorem Tq (s:lU)(h:(gg s).2=0):kt (gg s).1=true:=by
 unfold gg at h ⊢;split at h
 . rename_i hc;rw[if_pos hc];exact DF _
 simp at h
theorem QT:JG pG 23=some [.int .i64,.int .i64,.int .i64,.int .i64,.int .i64]:=by kernel_rfl
attribute [local go_sem] QT
theorem No (bs:lU)(h:bs.length<=9223372036854775807):Fn pG 5 [VK bs] true (· =eB true):=by
 refine Fn.au 64 [.tmp 2] func5 (hv:=?_);simp -dsimp -implicitDefEqProofs only[go_sem];refine aa (Xf bs h) ?_;rcases hb:decide ((bs.length:Int)>4096) with _|_
 rotate_left
 . simp -dsimp -implicitDefEqProofs only[go_sem]
 have hl:bs.length<=4096:=by have:=of_decide_eq_false hb;omega
 simp -dsimp -implicitDefEqProofs only[go_sem];refine py (wb bs hl) (by simp[ax,ao,aF]) ?_;rintro _ ⟨t,ht,rfl⟩;have cs:=s_ t (by omega);have ci:=DG t (by omega);have hB:=QS t;have hok:=Tq t;generalize gg t=D at*;obtain ⟨d,c⟩:=D;simp only at cs ci hB hok;obtain ⟨b1,b2,b3,b4,b5⟩:=hB;have tA:(d.a.map aM).take d.a.length=d.a.map aM:=a_ (by simp);have tK:(d.k.map aM).take d.k.length=d.k.map aM:=a_ (by simp);have kA:=s7 d.a (by omega) (λx hx=>by have:=b3 x hx;omega);have kK:=s7 d.k (by omega) (λx hx=>by have:=b5 x hx;omega);have iD:=tX d.m d.a d.k (by omega) (λx hx=>by have:=b3 x hx;omega) (by omega) (λx hx=>by have:=b5 x hx;omega);have e0:(c != c)=false:=by simp
 have f1:(d.m.ae==d.m.ae)=true:=by simp
 have f2:(d.m.ak==d.m.ak)=true:=by simp
 have f3:(d.m.step==d.m.step)=true:=by simp
 have f4:(d.m.same==d.m.same)=true:=by simp
 have f5:(d.m.least==d.m.least)=true:=by simp
 simp -dsimp -implicitDefEqProofs only[go_sem];refine aa ci ?_;simp -dsimp -implicitDefEqProofs only[go_sem,uq6];refine av cs (by simp[ax,ao,aF]) ?_;simp -dsimp -implicitDefEqProofs only[go_sem];refine py (DI bs hl) (by simp[ax,ao,aF]) ?_;rintro _ ⟨m,a,k,u1,u2,u3,u4,rfl⟩;have ix:=tX m a k (by omega) (λx hx=>by have:=u2 x hx;omega) (by omega) (λx hx=>by have:=u4 x hx;omega);have sx:=B0 m a k (by omega) (λx hx=>by have:=u2 x hx;omega) (by omega) (λx hx=>by have:=u4 x hx;omega);generalize fS m a k=J at*;have e2:(J != J)=false:=by simp
 simp -dsimp -implicitDefEqProofs only[go_sem];refine aj.draw mixed rfl ?_;simp -dsimp -implicitDefEqProofs only[go_sem,e0,f1,f2,f3,f4,f5];refine an kA ?_;simp -dsimp -implicitDefEqProofs only[go_sem,tK,uq6];refine an kK ?_;simp -dsimp -implicitDefEqProofs only[go_sem];refine an ix ?_;simp -dsimp -implicitDefEqProofs only[go_sem];refine an sx ?_;simp -dsimp -implicitDefEqProofs only[go_sem];((with_reducible and_intros);all_goals try exact rfl);by_cases hc0:c=0
 . have ec:(c != 0)=false:=(by simp[hc0]);have hJ:fS d.m d.a d.k=true:=hok hc0;rw[hJ] at iD;simp -dsimp -implicitDefEqProofs only[go_sem,ec,tA,tK,uq6];refine aa iD ?_;simp -dsimp -implicitDefEqProofs only[go_sem,ec]
 have ec:(c != 0)=true:=by simpa using hc0
 simp -dsimp -implicitDefEqProofs only[go_sem,ec]
end Go.Vc
namespace Go.Proofs.YtofpaabacebkkaaGreatDoor.fnDesks
open Go.Vc Go.ChangeShapes Go.WideShapes Go.ChangeAt Go.RowKit
open Go.ChangeMaps (open_string shut_string)
set_option maxRecDepth 100000 in
theorem lifted (os:Os)(started:os.Started)(H:Type)(enc:TypeId × Value->H):
 ReturnsInHanded {} Tryz.checked os 5 .any (λw args=>(Rows.fnDesksSpec.pre enc pG Tryz.f5 [] false w args/\laidMetH pG laidAll w)/\sizedMet enc pG Tryz.f5 (OpenSpec.ofChange Rows.fnDesksSpec) false w args)
  (Rows.fnDesksSpec.post enc pG Tryz.f5 false true false false):=by
 refine Ii (C:=Tryz.checked) (X:=λw _=>laidMetH pG laidAll w) (λ_ _ _ hh h=>h.of_heap hh) own started (by kernel_rfl) func5
  (ChangeSpec.witness_shaped (enc:=enc) (C:=Tryz.checked) (os:=os) (X:=λw _=>laidMetH pG laidAll w) false (World.laidAll pG os laidAll) #[.slice none 0 0] 8 (World.laidAll_os _ _ _)
    (ym os _) (by kernel_rfl) (by kernel_rfl) (by kernel_rfl) (Fw os _)) ?_
 intro W base args ds gs before Uz hW _ _ hL hSh _;have Tt:∀(j:Nat) t v,Tryz.f5.params[j]? =some t->args[j]? =some v->Value.okWide pG W .any base t v:=Uz;have hW':=hW;obtain ⟨p,q,hA0,hV,rfl,hfz,hnd⟩:=hW;have hA:DataW.TrodAll enc pG W 0 (λ_=>true) true Tryz.f5.params.toList args.toList ds p:=hA0;rw[Tryz.params5] at hA Tt;obtain ⟨v0,vs0,d0,ds0,p0,q0,Zp,rfl,rfl,h0,r0⟩:=trodAll_cons hA;obtain ⟨rfl,rfl,rfl⟩:=trodAll_nil r0;obtain rfl:args= #[v0]:=by cases args;simp_all
 obtain ⟨rfl,rfl⟩:=trodVars_none hV;have k0:=h0;have lt0:∀x∈p0,x.block<W.heap.size:=by obtain ⟨m,hm⟩:=k0;exact DataW.trod_lt m _ _ _ hm
 obtain ⟨x0,ok0,rd0⟩:=P2.arg false (λ_=>rfl) h0 (by obtain ⟨_,e⟩:=okWide_slice underlying32 (Tt 0 32 v0 rfl rfl);obtain ⟨_,_,e⟩:=e;subst e;rfl);clear hA0 Uz
 refine (Fn.law (No x0 (by have:=ok0.1;unfold maxLen at this;omega)) W (SV hL hSh) #[v0] rfl (λi hi=>match i,hi with
  |0,_=>rd0)).mono λe W' ⟨he,bel⟩=>?_
 subst he;exact ⟨_,rfl,_,_,_,[],_,[],hW',trodAll_mk1 (shut_bool underlying4 _),(trodAll_cons_mk (Below.trod laidOut (by kernel_rfl) (oT (by kernel_rfl)) k0 bel lt0) trodAll_mk0),rfl,bel.frame _,λh=>by cases h⟩
end Go.Proofs.YtofpaabacebkkaaGreatDoor.fnDesks
namespace Go.Proofs.YtofpaabacebkkaaGreatDoor.fnDesks
open Go.Vc Go.ChangeShapes Go.WideShapes Go.ChangeAt Go.RowKit
open Go.ChangeMaps (open_string shut_string)
theorem Np:(Rows.fnDesksRow.inPlace==Tryz.pinned.checked.prog.inPlace 5)=true:=by kernel_rfl
theorem XC:(Rows.fnDesksRow.unfollowed==Tryz.pinned.checked.prog.unfollowed 5)=true:=by kernel_rfl
end Go.Proofs.YtofpaabacebkkaaGreatDoor.fnDesks
namespace Go.Proofs.YtofpaabacebkkaaGreatDoor.fnDesks
open Go.Vc Go.ChangeShapes Go.WideShapes Go.ChangeAt Go.RowKit
open Go.ChangeMaps (open_string shut_string)
theorem XD:(Rows.fnDesksRow.recurses==Tryz.pinned.checked.prog.recurses 5)=true:=by kernel_rfl
theorem Tr:(Rows.fnDesksRow.named==Tryz.pinned.checked.prog.varsNamed 5)=true:=by kernel_rfl
end Go.Proofs.YtofpaabacebkkaaGreatDoor.fnDesks
namespace Go.Proofs.YtofpaabacebkkaaGreatDoor.fnDesks
open Go.Vc Go.ChangeShapes Go.WideShapes Go.ChangeAt Go.RowKit
open Go.ChangeMaps (open_string shut_string)
theorem closed:joinedFacts Tryz.pinned.checked.prog 5 Tryz.f5 Rows.fnDesksSpec Rows.fnDesksRow=true:=by
 unfold joinedFacts;rw[Np,XC,XD,Tr]
 kernel_rfl
theorem holds:Rows.fnDesksRow.holds Tryz.pinned (OpenSpec.ofChange Rows.fnDesksSpec):=
 OpenClaim.holds_of_wide 5 Tryz.f5 rfl rfl rfl rfl rfl rfl rfl ⟨rfl,rfl,rfl,rfl,rfl⟩ rfl rfl rfl rfl rfl (by kernel_rfl) func5 closed
  (oT (by kernel_rfl)) (by unfold Func.isWrapper;first|(rw[if_pos (by decide+kernel)];kernel_rfl)|(rw[if_neg (by decide+kernel)];exact ⟨rfl,rfl⟩))
  (λos started H enc _=>lifted os started H enc)
end Go.Proofs.YtofpaabacebkkaaGreatDoor.fnDesks
