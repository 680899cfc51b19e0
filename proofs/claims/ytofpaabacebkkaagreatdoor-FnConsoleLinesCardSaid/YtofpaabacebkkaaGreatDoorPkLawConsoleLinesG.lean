import Derived.Test.YtofpaabacebkkaaGreatDoorPkLawConsoleLinesF
open Go.Proofs.Tryz
open Go.Proofs.Tryz renaming prog → pG
set_option linter.unusedVariables false
set_option linter.unusedSimpArgs false
set_option linter.unnecessarySimpa false
set_option maxRecDepth 1000000
set_option maxHeartbeats 16000000
open Bool renaming and_eq_true->uq0
open Int renaming reduceBEq->uq1
open List renaming drop_succ_cons->uq2,drop_zero->uq3,getElem_mem->uq4,length_cons->uq5,length_map->uq6,length_nil->uq7,map->uq8,map_cons->uq9,map_nil->bj,mem_singleton->dR,take_of_length_le->b6,take_succ_cons->bI,take_zero->bd
open Nat renaming reduceBEq->bm
namespace Go.Vc
open Go.Proofs
theorem Vz (m:aL) (tb:lL) (lim:Nat) (part:lL) (z:SS) (ht:tb.length<=1000) (hp:part.length=tb.length) (hp0:0<part.length) (hpx:∀x∈part,0<x.length/\x.length<=1048576) (hf:z.found.length<=20000000):
 fL pG 256 [(1900000017,.box 0 [eI m.ae,eI m.ak,eI m.step,eI m.same,eI m.least,aQ tb,eI (lim:Int),eI (z.tries:Int),eB z.stop,.cn 255 [.ptr 1900000010 0 0 0,.ptr 1900000006 0 0 0]]),(1900000010,.box 0 [.ref 1900000012 z.found.length 0 z.found.length]),(1900000012,.row z.found.length ⟨1,false⟩ true (z.found.map aQ)),(1900000006,.box 0 [eI 1])] [.ptr 1900000017 0 0 0,aQ part,.val (.slice none 0 0)] (λr m'=>r=eB false/\m'=[(1900000017,.box 0 [eI m.ae,eI m.ak,eI m.step,eI m.same,eI m.least,aQ tb,eI (lim:Int),eI ((⟨z.tries,z.stop,z.found++[part]⟩:SS).tries:Int),eB (⟨z.tries,z.stop,z.found++[part]⟩:SS).stop,.cn 255 [.ptr 1900000010 0 0 0,.ptr 1900000006 0 0 0]]),(1900000010,.box 0 [.ref 1900000012 (⟨z.tries,z.stop,z.found++[part]⟩:SS).found.length 0 (⟨z.tries,z.stop,z.found++[part]⟩:SS).found.length]),(1900000012,.row (⟨z.tries,z.stop,z.found++[part]⟩:SS).found.length ⟨1,false⟩ true ((⟨z.tries,z.stop,z.found++[part]⟩:SS).found.map aQ)),(1900000006,.box 0 [eI 1])]):=by
 refine fL.cW 39 [.tmp 6] func256 (hv:= ?_);have hcp:=fD part (by omega) hpx;obtain ⟨tries,stop,found⟩:=z;simp only at hf ⊢;have e:((part.length:Int)==(tb.length:Int))=true:=by rw [hp];simp
 have eD:decide (((found.length+1:Nat):Int)<1)=false:=dF (by omega);have eM:(found++[part]).map aQ=found.map aQ++[aQ part]:=by simp
 have eL:(found++[part]).length=found.length+1:=by simp
 have eSet:∀u,(found.map aQ++[AV.val u]).set found.length (.arr ⟨1,false⟩ (part.map aP))=found.map aQ++[aQ part]:=λu=>by rw [List.set_append_right _ _ (by simp)];simp
 simp -dsimp -implicitDefEqProofs only [go_sem];refine aj.draw mixed rfl ?_;simp -dsimp -implicitDefEqProofs only [go_sem,e];refine ⟨by exact rfl,?_⟩;refine aj.lx 5 mixed rfl ?_;(simp -dsimp -implicitDefEqProofs only [bI,bd,uq2,uq3]);simp -dsimp -implicitDefEqProofs only [go_sem];refine ⟨by exact rfl,?_⟩;refine bN 430000 14 [.tmp 4] func255 rfl rfl rfl rfl rfl (by exact oT rfl) ?_;simp -dsimp -implicitDefEqProofs only [go_sem];refine aj.Va ?_;refine aj.any mixed rfl ?_;refine ct [0,1] rfl ⟨?_,?_,trivial⟩
 . (simp -dsimp -implicitDefEqProofs only [bI,bd,uq3]);simp -dsimp -implicitDefEqProofs only [go_sem];(refine nu.go ?_;refine ct [1] rfl ⟨?_,trivial⟩;(simp -dsimp -implicitDefEqProofs only [bI,bd,uq2,uq3]);simp -dsimp -implicitDefEqProofs only [go_sem]);(refine nu.go ?_;refine ct [2] rfl ⟨?_,trivial⟩;(simp -dsimp -implicitDefEqProofs only [bI,bd,uq2,uq3]);simp -dsimp -implicitDefEqProofs only [go_sem]);refine aa hcp ?_;simp -dsimp -implicitDefEqProofs only [go_sem];refine nu.known 7 8000 0 part.length ⟨1,false⟩ _ rfl (by decide) rfl (by simp) hp0 (by decide) λu=> ?_;refine ct [3] rfl ⟨?_,trivial⟩;(simp -dsimp -implicitDefEqProofs only [bI,bd,uq2,uq3]);simp -dsimp -implicitDefEqProofs only [go_sem];(refine nu.go ?_;refine ct [4] rfl ⟨?_,trivial⟩;(simp -dsimp -implicitDefEqProofs only [bI,bd,uq2,uq3]);simp -dsimp -implicitDefEqProofs only [go_sem]);((with_reducible and_intros);all_goals try omega);(refine nu.go ?_;refine ct [5] rfl ⟨?_,trivial⟩;(simp -dsimp -implicitDefEqProofs only [bI,bd,uq2,uq3]);simp -dsimp -implicitDefEqProofs only [go_sem]);((refine nu.go ?_);refine sG ?_;refine nu.go ?_;refine hk.back 1900000012 (found.length+1) found.length 8000 0 _ _ _ u (by decide) rfl (by simp) rfl ?_;(rw [eSet u]);refine hk.go ?_;simp -dsimp -implicitDefEqProofs only [go_sem,eD];refine ⟨_,rfl,aM ?_ ?_⟩;(simp -dsimp -implicitDefEqProofs only [go_sem,eM]);(simp -dsimp -implicitDefEqProofs only [go_sem];simp [ao,aq,ck]))
 (simp -dsimp -implicitDefEqProofs only [bI,bd,uq2,uq3]);simp -dsimp -implicitDefEqProofs only [go_sem];refine nu.go ?_;refine ct [0,2] rfl ⟨?_,?_,trivial⟩
 . (simp -dsimp -implicitDefEqProofs only [bI,bd,uq3]);simp -dsimp -implicitDefEqProofs only [go_sem];(refine nu.go ?_;refine ct [2] rfl ⟨?_,trivial⟩;(simp -dsimp -implicitDefEqProofs only [bI,bd,uq2,uq3]);simp -dsimp -implicitDefEqProofs only [go_sem]);refine aa hcp ?_;simp -dsimp -implicitDefEqProofs only [go_sem];refine nu.known 7 8000 0 part.length ⟨1,false⟩ _ rfl (by decide) rfl (by simp) hp0 (by decide) λu=> ?_;refine ct [3] rfl ⟨?_,trivial⟩;(simp -dsimp -implicitDefEqProofs only [bI,bd,uq2,uq3]);simp -dsimp -implicitDefEqProofs only [go_sem];(refine nu.go ?_;refine ct [4] rfl ⟨?_,trivial⟩;(simp -dsimp -implicitDefEqProofs only [bI,bd,uq2,uq3]);simp -dsimp -implicitDefEqProofs only [go_sem]);((with_reducible and_intros);all_goals try omega);(refine nu.go ?_;refine ct [5] rfl ⟨?_,trivial⟩;(simp -dsimp -implicitDefEqProofs only [bI,bd,uq2,uq3]);simp -dsimp -implicitDefEqProofs only [go_sem]);((refine nu.go ?_);refine sG ?_;refine nu.go ?_;refine hk.back 1900000012 (found.length+1) found.length 8000 0 _ _ _ u (by decide) rfl (by simp) rfl ?_;(rw [eSet u]);refine hk.go ?_;simp -dsimp -implicitDefEqProofs only [go_sem,eD];refine ⟨_,rfl,aM ?_ ?_⟩;(simp -dsimp -implicitDefEqProofs only [go_sem,eM]);(simp -dsimp -implicitDefEqProofs only [go_sem];simp [ao,aq,ck]))
 (simp -dsimp -implicitDefEqProofs only [bI,bd,uq2,uq3]);simp -dsimp -implicitDefEqProofs only [go_sem];refine aa hcp ?_;simp -dsimp -implicitDefEqProofs only [go_sem];refine nu.known 7 8000 0 part.length ⟨1,false⟩ _ rfl (by decide) rfl (by simp) hp0 (by decide) λu=> ?_;refine ct [0,3] rfl ⟨?_,?_,trivial⟩
 . (simp -dsimp -implicitDefEqProofs only [bI,bd,uq3]);simp -dsimp -implicitDefEqProofs only [go_sem];(refine nu.go ?_;refine ct [3] rfl ⟨?_,trivial⟩;(simp -dsimp -implicitDefEqProofs only [bI,bd,uq2,uq3]);simp -dsimp -implicitDefEqProofs only [go_sem]);(refine nu.go ?_;refine ct [4] rfl ⟨?_,trivial⟩;(simp -dsimp -implicitDefEqProofs only [bI,bd,uq2,uq3]);simp -dsimp -implicitDefEqProofs only [go_sem]);((with_reducible and_intros);all_goals try omega);(refine nu.go ?_;refine ct [5] rfl ⟨?_,trivial⟩;(simp -dsimp -implicitDefEqProofs only [bI,bd,uq2,uq3]);simp -dsimp -implicitDefEqProofs only [go_sem]);((refine nu.go ?_);refine sG ?_;refine nu.go ?_;refine hk.back 1900000012 (found.length+1) found.length 8000 0 _ _ _ u (by decide) rfl (by simp) rfl ?_;(rw [eSet u]);refine hk.go ?_;simp -dsimp -implicitDefEqProofs only [go_sem,eD];refine ⟨_,rfl,aM ?_ ?_⟩;(simp -dsimp -implicitDefEqProofs only [go_sem,eM]);(simp -dsimp -implicitDefEqProofs only [go_sem];simp [ao,aq,ck]))
 (simp -dsimp -implicitDefEqProofs only [bI,bd,uq2,uq3]);simp -dsimp -implicitDefEqProofs only [go_sem];(refine nu.go ?_;refine ct [0] rfl ⟨?_,trivial⟩;(simp -dsimp -implicitDefEqProofs only [bI,bd,uq3]);simp -dsimp -implicitDefEqProofs only [go_sem]);(refine nu.go ?_;refine ct [4] rfl ⟨?_,trivial⟩;(simp -dsimp -implicitDefEqProofs only [bI,bd,uq2,uq3]);simp -dsimp -implicitDefEqProofs only [go_sem]);((with_reducible and_intros);all_goals try omega);(refine nu.go ?_;refine ct [5] rfl ⟨?_,trivial⟩;(simp -dsimp -implicitDefEqProofs only [bI,bd,uq2,uq3]);simp -dsimp -implicitDefEqProofs only [go_sem]);((refine nu.go ?_);refine sG ?_;refine nu.go ?_;refine hk.back 1900000012 (found.length+1) found.length 8000 0 _ _ _ u (by decide) rfl (by simp) rfl ?_;(rw [eSet u]);refine hk.go ?_;simp -dsimp -implicitDefEqProofs only [go_sem,eD];refine ⟨_,rfl,aM ?_ ?_⟩;(simp -dsimp -implicitDefEqProofs only [go_sem,eM]);(simp -dsimp -implicitDefEqProofs only [go_sem];simp [ao,aq,ck]))
theorem IY (m:Mem) (sh:Sh) (xs:lA) (i j:Nat) (k:AV->Prop):iA m (.bo sh xs i j) k=k (.bo sh xs i j):=rfl
attribute [go_sem] IY
theorem g_ (m:aL) (tb ab:lL):aq (ot m tb ab)=[]:=rfl
theorem Qn (m:aL) (tb ab:lL) (m1 m2:Mem):xF m1 m2 (ot m tb ab) (ot m tb ab)=True:=by simp [ot,xF,jM,leaf]
theorem MY {α:Type} (m m2:Mem) (v v2:Nat) (sh:Sh) (zs:List α) (xs xs2:lA):xH m m2 (some (.row v sh zs.isEmpty xs)) (.row v2 sh zs.isEmpty xs2)=(xs=xs2):=by simp [xH]
theorem S5 (l l2:Nat) (m:aL) (tb ab:lL):qu l l2 (ot m tb ab)=ot m tb ab:=by simp [ot,qu,iS]
attribute [go_sem] g_ Qn MY S5
def VA (lim bz b:Nat) (st:SS × Bool):Prop:=st.1.tries<=lim/\st.1.found.length<=bz+b
theorem Gz (lim bz:Nat):∀a b s,a<=b->VA lim bz a s->VA lim bz b s:=λa b s h hs=>⟨hs.1,by have:=hs.2;omega⟩
theorem Qo (m:aL) (tb:lL) (lim d bz:Nat) (part:lL):∀b s k,VA lim bz b s->VA lim bz (b+1) (gF m tb lim part (f_ m tb lim d) s k).1:=λb s k h=>by obtain ⟨g1,_,g3,_⟩:=T6 (m:=m) (part:=part) (λp z h=>Dq m tb lim d p z h) s k h.1;exact ⟨g1,by have:=h.2;omega⟩
structure Yp (m:aL) (tb:lL) (lim d bz:Nat) (part:lL):Prop where
 pg:aW m=true
 tl:tb.length<=1000
 row:∀i (hi:i<tb.length),tb[i].length=(tb.getD 0 []).length
 wd:(tb.getD 0 []).length<=1000
 pl:part.length+(d+1)=tb.length
 px:∀x∈part,(x.length:Int)=m.ae/\∀y∈x,0<=y/\y<m.ak
 lm:lim<=4000
 fb:bz+(d+1)*1000000<=20000000
def Qp (m:aL) (tb:lL) (lim d:Nat):Prop:=∀(part:lL) (z:SS),part.length+d=tb.length->(∀x∈part,(x.length:Int)=m.ae/\∀y∈x,0<=y/\y<m.ak)->z.tries<=lim->z.found.length+d*1000000<=20000000→
    fL pG 256 [(1900000017,.box 0 [eI m.ae,eI m.ak,eI m.step,eI m.same,eI m.least,aQ tb,eI (lim:Int),eI (z.tries:Int),eB z.stop,.cn 255 [.ptr 1900000010 0 0 0,.ptr 1900000006 0 0 0]]),(1900000010,.box 0 [.ref 1900000012 z.found.length 0 z.found.length]),(1900000012,.row z.found.length ⟨1,false⟩ true (z.found.map aQ)),(1900000006,.box 0 [eI 1])] [.ptr 1900000017 0 0 0,aQ part,.val (.slice none 0 0)] (λr m'=>r=eB (f_ m tb lim d part z).1/\m'=[(1900000017,.box 0 [eI m.ae,eI m.ak,eI m.step,eI m.same,eI m.least,aQ tb,eI (lim:Int),eI (((f_ m tb lim d part z).2).tries:Int),eB ((f_ m tb lim d part z).2).stop,.cn 255 [.ptr 1900000010 0 0 0,.ptr 1900000006 0 0 0]]),(1900000010,.box 0 [.ref 1900000012 ((f_ m tb lim d part z).2).found.length 0 ((f_ m tb lim d part z).2).found.length]),(1900000012,.row ((f_ m tb lim d part z).2).found.length ⟨1,false⟩ true (((f_ m tb lim d part z).2).found.map aQ)),(1900000006,.box 0 [eI 1])])
theorem Xd (m:aL) (tb:lL) (lim d bz:Nat) (part:lL) (hG:Yp m tb lim d bz part) (hIH:Qp m tb lim d) (c:lI) (af:Nat) (ys:lA) (st:SS × Bool) (hc:(c.length:Int)=m.ae) (hcx:∀x∈c,0<=x/\x<m.ak) (hy:ys.take c.length=c.map eI) (hs:∃b:Nat,VA lim bz b st/\b+1<=1000000):
 fL pG 271 [(1700000010,.row af ⟨1,false⟩ true ys),(1600000003,.box 0 [.ptr 1900000017 0 0 0]),(1600000004,.box 0 [aQ part]),(1600000005,.box 0 [.val (.slice none 0 0)]),(1600000007,.box 0 [eB st.2]),(1600000008,.box 0 [.cn 280 (ot m tb part)]),(1900000017,.box 0 [eI m.ae,eI m.ak,eI m.step,eI m.same,eI m.least,aQ tb,eI (lim:Int),eI (st.1.tries:Int),eB st.1.stop,.cn 255 [.ptr 1900000010 0 0 0,.ptr 1900000006 0 0 0]]),(1900000010,.box 0 [.ref 1900000012 st.1.found.length 0 st.1.found.length]),(1900000012,.row st.1.found.length ⟨1,false⟩ true (st.1.found.map aQ)),(1900000006,.box 0 [eI 1])] [.ref 1700000010 af 0 c.length,.ptr 1600000005 0 0 0,.ptr 1600000003 0 0 0,.ptr 1600000007 0 0 0,.ptr 1600000008 0 0 0,.ptr 1600000004 0 0 0]
  (λr m'=>r=eB (gF m tb lim part (f_ m tb lim d) st c).2/\m'=[(1700000010,.row af ⟨1,false⟩ true ys),(1600000003,.box 0 [.ptr 1900000017 0 0 0]),(1600000004,.box 0 [aQ part]),(1600000005,.box 0 [.val (.slice none 0 0)]),(1600000007,.box 0 [eB ((gF m tb lim part (f_ m tb lim d) st c).1).2]),(1600000008,.box 0 [.cn 280 (ot m tb part)]),(1900000017,.box 0 [eI m.ae,eI m.ak,eI m.step,eI m.same,eI m.least,aQ tb,eI (lim:Int),eI ((((gF m tb lim part (f_ m tb lim d) st c).1).1).tries:Int),eB (((gF m tb lim part (f_ m tb lim d) st c).1).1).stop,.cn 255 [.ptr 1900000010 0 0 0,.ptr 1900000006 0 0 0]]),(1900000010,.box 0 [.ref 1900000012 (((gF m tb lim part (f_ m tb lim d) st c).1).1).found.length 0 (((gF m tb lim part (f_ m tb lim d) st c).1).1).found.length]),(1900000012,.row (((gF m tb lim part (f_ m tb lim d) st c).1).1).found.length ⟨1,false⟩ true ((((gF m tb lim part (f_ m tb lim d) st c).1).1).found.map aQ)),(1900000006,.box 0 [eI 1])]):=by
 refine fL.cW 46 [.tmp 7] func271 (hv:= ?_);have lu:=aI hG.pg;have hst:=Qm m tb part c hG.pg hG.tl (by have:=hG.pl;omega) hG.row hG.wd (λx hx=>(hG.px x hx).1) hc;have hyl:c.length<=ys.length:=by have:=congrArg List.length hy;simp at this;omega
 obtain ⟨b,⟨hs1,hs2⟩,hs3⟩:=hs;obtain ⟨⟨tries,stop,found⟩,more⟩:=st;simp only at hs1 hs2 ⊢;unfold gF;simp only;have hlm:=hG.lm;have eT:((tries+1:Nat):Int)=(tries:Int)+1:=by omega
 rcases e1:((tries:Int)==(lim:Int)) with _|_
 . rcases e2:nR m tb part c with _|_
   . rw [e2] at hst;unfold ot at hst ⊢;simp -dsimp -implicitDefEqProofs only [go_sem];refine aj.draw mixed rfl ?_;simp -dsimp -implicitDefEqProofs only [go_sem,e1];refine ⟨by exact rfl,⟨by omega,by omega⟩,hyl,?_⟩;simp -dsimp -implicitDefEqProofs only [go_sem,hy];refine aa hst ?_;simp -dsimp -implicitDefEqProofs only [go_sem];refine ⟨_,rfl,aM ?_ ?_⟩
     . simp -dsimp -implicitDefEqProofs only [go_sem,eT]
     simp -dsimp -implicitDefEqProofs only [go_sem];simp [ao,aq,ck]
   rw [e2] at hst;unfold ot at hst ⊢;have hcl:=Qi part (by have:=hG.pl;have:=hG.tl;omega);have hck:=yA c (by omega);simp -dsimp -implicitDefEqProofs only [go_sem];refine aj.draw mixed rfl ?_;simp -dsimp -implicitDefEqProofs only [go_sem,e1];refine ⟨by exact rfl,⟨by omega,by omega⟩,hyl,?_⟩;simp -dsimp -implicitDefEqProofs only [go_sem,hy];refine aa hst ?_;simp -dsimp -implicitDefEqProofs only [go_sem];refine aj.lx 7 mixed rfl ?_;simp -dsimp -implicitDefEqProofs only [bI,bd,uq2,uq3];simp -dsimp -implicitDefEqProofs only [go_sem];refine kQ hcl (by decide) rfl (by decide) ?_;simp -dsimp -implicitDefEqProofs only [go_sem,hy,uq3];refine ⟨hyl,?_⟩;(refine an (hck) ?_;try simp -dsimp -implicitDefEqProofs only [go_sem, *])
   have lh:=hIH (part++[c]) ⟨tries+1,stop,found⟩ (by have:=hG.pl;simp;omega) (λx hx=>by
    rcases List.mem_append.1 hx with hx|hx
    . exact hG.px x hx
    . rw [dR] at hx;subst hx;exact ⟨hc,hcx⟩) (by
    have:tries≠lim:=λe=>by rw [e] at e1;simp at e1
    simp only;omega) (by have:=hG.fb;simp only;omega)
   have eM:(part++[c]).map aP=part.map aP++[aP c]:=(by simp);refine .inr ⟨by have:=hG.pl;have:=hG.tl;omega,by exact rfl,?_⟩
   refine Ii 40000 1 ⟨1,false⟩ false (part.map aP++[aP c]) [.ptr 1900000017 0 0 0,aQ (part++[c]),.val (.slice none 0 0)] (by decide) rfl
    (FE (by simp [ao]) (L3 0 (part.length+1) (by simp) (by rw [uq3,b6 (by simp),←eM]) (FE (by simp [ao]) L4))) ?_
   refine L5 lh ⟨⟨?_,?_⟩,?_,?_⟩ ?_
   . simp -dsimp -implicitDefEqProofs only [go_sem]
   . simp -dsimp -implicitDefEqProofs only [go_sem];simp [ao,aq,ck]
   . simp -dsimp -implicitDefEqProofs only [go_sem,eT]
   . simp -dsimp -implicitDefEqProofs only [go_sem];simp
   rintro r m' ⟨hr,hm'⟩;rw [hr,hm'];generalize f_ m tb lim d (part++[c]) ⟨tries+1,stop,found⟩=w at*;simp -dsimp -implicitDefEqProofs only [go_sem];refine ⟨_,rfl,aM ?_ ?_⟩
   . simp -dsimp -implicitDefEqProofs only [go_sem]
   simp -dsimp -implicitDefEqProofs only [go_sem];simp [ao,aq,ck]
 unfold ot;simp -dsimp -implicitDefEqProofs only [go_sem];refine aj.draw mixed rfl ?_;simp -dsimp -implicitDefEqProofs only [go_sem,e1];refine ⟨by exact rfl,_,rfl,aM ?_ ?_⟩
 . simp -dsimp -implicitDefEqProofs only [go_sem]
 simp -dsimp -implicitDefEqProofs only [go_sem];simp [ao,aq,ck]
theorem Xe (m:aL) (hm:aW m=true) (tb:lL) (lim d bz:Nat) (part:lL) (hG:Yp m tb lim d bz part) (hIH:Qp m tb lim d):∀(n:Nat) (c:lI) (t:KS (SS × Bool)),(c.length:Int)+n=m.ae->(∀x∈c,0<=x/\x<m.ak)->DN c t->(∃b:Nat,VA lim bz b t.s/\b+8^n<=1000000)→
 fL pG 262 [(1700000008,.box 0 [.ref 1700000010 t.af 0 c.length]),(1700000010,.row t.af ⟨1,false⟩ true (t.zs.map eI)),(1700000004,.box 0 [eI m.ae,eI m.ak,eI m.step,eI m.same,eI m.least]),(1700000007,.box 0 [.cn 271 [.ptr 1600000005 0 0 0,.ptr 1600000003 0 0 0,.ptr 1600000007 0 0 0,.ptr 1600000008 0 0 0,.ptr 1600000004 0 0 0]]),(1700000005,.box 0 [.val (.slice none 0 0)]),(1700000006,.box 0 [.val .nilFunc]),(1700000009,.box 0 [.cn 262 [.ptr 1700000008 0 0 0,.ptr 1700000004 0 0 0,.ptr 1700000007 0 0 0,.ptr 1700000005 0 0 0,.ptr 1700000006 0 0 0,.ptr 1700000009 0 0 0]]),(1600000003,.box 0 [.ptr 1900000017 0 0 0]),(1600000004,.box 0 [aQ part]),(1600000005,.box 0 [.val (.slice none 0 0)]),(1600000007,.box 0 [eB t.s.2]),(1600000008,.box 0 [.cn 280 (ot m tb part)]),(1900000017,.box 0 [eI m.ae,eI m.ak,eI m.step,eI m.same,eI m.least,aQ tb,eI (lim:Int),eI (t.s.1.tries:Int),eB t.s.1.stop,.cn 255 [.ptr 1900000010 0 0 0,.ptr 1900000006 0 0 0]]),(1900000010,.box 0 [.ref 1900000012 t.s.1.found.length 0 t.s.1.found.length]),(1900000012,.row t.s.1.found.length ⟨1,false⟩ true (t.s.1.found.map aQ)),(1900000006,.box 0 [eI 1])] [eB false,.ptr 1700000008 0 0 0,.ptr 1700000004 0 0 0,.ptr 1700000007 0 0 0,.ptr 1700000005 0 0 0,.ptr 1700000006 0 0 0,.ptr 1700000009 0 0 0]
  (λr m'=>r=eB (bn m (gF m tb lim part (f_ m tb lim d)) n c t).2/\m'=[(1700000008,.box 0 [.ref 1700000010 (bn m (gF m tb lim part (f_ m tb lim d)) n c t).1.af 0 c.length]),(1700000010,.row (bn m (gF m tb lim part (f_ m tb lim d)) n c t).1.af ⟨1,false⟩ true ((bn m (gF m tb lim part (f_ m tb lim d)) n c t).1.zs.map eI)),(1700000004,.box 0 [eI m.ae,eI m.ak,eI m.step,eI m.same,eI m.least]),(1700000007,.box 0 [.cn 271 [.ptr 1600000005 0 0 0,.ptr 1600000003 0 0 0,.ptr 1600000007 0 0 0,.ptr 1600000008 0 0 0,.ptr 1600000004 0 0 0]]),(1700000005,.box 0 [.val (.slice none 0 0)]),(1700000006,.box 0 [.val .nilFunc]),(1700000009,.box 0 [.cn 262 [.ptr 1700000008 0 0 0,.ptr 1700000004 0 0 0,.ptr 1700000007 0 0 0,.ptr 1700000005 0 0 0,.ptr 1700000006 0 0 0,.ptr 1700000009 0 0 0]]),(1600000003,.box 0 [.ptr 1900000017 0 0 0]),(1600000004,.box 0 [aQ part]),(1600000005,.box 0 [.val (.slice none 0 0)]),(1600000007,.box 0 [eB ((bn m (gF m tb lim part (f_ m tb lim d)) n c t).1.s).2]),(1600000008,.box 0 [.cn 280 (ot m tb part)]),(1900000017,.box 0 [eI m.ae,eI m.ak,eI m.step,eI m.same,eI m.least,aQ tb,eI (lim:Int),eI (((bn m (gF m tb lim part (f_ m tb lim d)) n c t).1.s).1.tries:Int),eB ((bn m (gF m tb lim part (f_ m tb lim d)) n c t).1.s).1.stop,.cn 255 [.ptr 1900000010 0 0 0,.ptr 1900000006 0 0 0]]),(1900000010,.box 0 [.ref 1900000012 ((bn m (gF m tb lim part (f_ m tb lim d)) n c t).1.s).1.found.length 0 ((bn m (gF m tb lim part (f_ m tb lim d)) n c t).1.s).1.found.length]),(1900000012,.row ((bn m (gF m tb lim part (f_ m tb lim d)) n c t).1.s).1.found.length ⟨1,false⟩ true (((bn m (gF m tb lim part (f_ m tb lim d)) n c t).1.s).1.found.map aQ)),(1900000006,.box 0 [eI 1])]):=by
 intro n;have ⟨⟨zu,zv⟩,hd1,hd2⟩:=aI hm;induction n with
 |zero=>
  intro c t hl hc hz hs;have hk:((c.length:Int)==m.ae)=true:=beq_iff_eq.2 (by omega);have ht:List.take c.length (uq8 eI t.zs)=uq8 eI c:=by rw [←List.map_take,hz.1]
  have hzl:c.length<=(uq8 eI t.zs).length:=by simpa using hz.2
  refine fL.cW 91 [.tmp 8] func262 (hv:= ?_);simp -dsimp -implicitDefEqProofs only [go_sem,hk];refine aj.lx 8 mixed rfl ?_;simp -dsimp -implicitDefEqProofs only [bI,bd,uq2,uq3];have s7:=iF c (by omega);rcases hq:decide ((bf c c.length:Int)<m.least) with _|_
  . have hq':=of_decide_eq_false hq;have eZ:bn m (gF m tb lim part (f_ m tb lim d)) 0 c t=(⟨t.af,t.zs,((gF m tb lim part (f_ m tb lim d)) t.s c).1⟩,((gF m tb lim part (f_ m tb lim d)) t.s c).2):=(by rw [bn,if_neg hq']);rw [eZ];simp -dsimp -implicitDefEqProofs only [go_sem,ht,uq3];refine ⟨hz.2,?_⟩;(refine an (s7) ?_;try simp -dsimp -implicitDefEqProofs only [go_sem, *]);refine ⟨by exact rfl,hz.2,?_⟩;refine cX (Xd m tb lim d bz part hG hIH c t.af (t.zs.map eI) t.s (by omega) hc ht (by simpa using hs)) ⟨⟨?_,?_⟩,?_,?_⟩ ?_
    . simp -dsimp -implicitDefEqProofs only [go_sem]
    . simp -dsimp -implicitDefEqProofs only [go_sem];simp [ao,aq,ck,g_]
    . simp -dsimp -implicitDefEqProofs only [go_sem]
    . simp -dsimp -implicitDefEqProofs only [go_sem];simp
    rintro r m' ⟨hr,hm'⟩;rw [hr,hm'];simp -dsimp -implicitDefEqProofs only [go_sem];refine ⟨_,rfl,aM ?_ ?_⟩
    . simp -dsimp -implicitDefEqProofs only [go_sem]
    simp -dsimp -implicitDefEqProofs only [go_sem];simp [ao,aq,ck,g_]
  have hq':=oT hq;have eZ:bn m (gF m tb lim part (f_ m tb lim d)) 0 c t=(t,true):=by rw [bn,if_pos hq']
  rw [eZ];simp -dsimp -implicitDefEqProofs only [go_sem,ht,uq3];refine ⟨hz.2,?_⟩;(refine an (s7) ?_;try simp -dsimp -implicitDefEqProofs only [go_sem, *]);refine ⟨by exact rfl,_,rfl,aM ?_ ?_⟩
  . simp -dsimp -implicitDefEqProofs only [go_sem]
  simp -dsimp -implicitDefEqProofs only [go_sem];simp [ao,aq,ck,g_]
 |succ n ih=>
  intro c t hl hc hz hs;have hk:((c.length:Int)==m.ae)=false:=beq_eq_false_iff_ne.2 (by omega);refine fL.cW 91 [.tmp 8] func262 (hv:= ?_);simp -dsimp -implicitDefEqProofs only [go_sem,hk];refine aj.up [0,1,2,5,6,9,10] [47,61,69,70,72,84] [1700000008,1700000010,1600000007,1900000017,1900000010,1900000012] m.ak.toNat (λi=>(eO (aS m (gF m tb lim part (f_ m tb lim d)) n c) t i).2=true) (λi=>[(11,eI i)]) (λi=>[(1700000008,.box 0 [.ref 1700000010 (eO (aS m (gF m tb lim part (f_ m tb lim d)) n c) t i).1.af 0 c.length]),(1700000010,.row (eO (aS m (gF m tb lim part (f_ m tb lim d)) n c) t i).1.af ⟨1,false⟩ true ((eO (aS m (gF m tb lim part (f_ m tb lim d)) n c) t i).1.zs.map eI)),(1600000007,.box 0 [eB ((eO (aS m (gF m tb lim part (f_ m tb lim d)) n c) t i).1.s).2]),(1900000017,.box 0 [eI m.ae,eI m.ak,eI m.step,eI m.same,eI m.least,aQ tb,eI (lim:Int),eI (((eO (aS m (gF m tb lim part (f_ m tb lim d)) n c) t i).1.s).1.tries:Int),eB ((eO (aS m (gF m tb lim part (f_ m tb lim d)) n c) t i).1.s).1.stop,.cn 255 [.ptr 1900000010 0 0 0,.ptr 1900000006 0 0 0]]),(1900000010,.box 0 [.ref 1900000012 ((eO (aS m (gF m tb lim part (f_ m tb lim d)) n c) t i).1.s).1.found.length 0 ((eO (aS m (gF m tb lim part (f_ m tb lim d)) n c) t i).1.s).1.found.length]),(1900000012,.row ((eO (aS m (gF m tb lim part (f_ m tb lim d)) n c) t i).1.s).1.found.length ⟨1,false⟩ true (((eO (aS m (gF m tb lim part (f_ m tb lim d)) n c) t i).1.s).1.found.map aQ))]) rfl ?_ rfl (λi hi hI=> ?_) (λhI=> ?_)
  . simp -dsimp -implicitDefEqProofs only [go_sem];simp [eO]
  . have hu:DN c (eO (aS m (gF m tb lim part (f_ m tb lim d)) n c) t i).1:=pU hz i;have kp:∃b:Nat,VA lim bz b (eO (aS m (gF m tb lim part (f_ m tb lim d)) n c) t i).1.s/\b+8^n<=1000000:=by
     obtain ⟨b0,hJ0,hb0⟩:=hs;refine ⟨b0+i*8^n,Ge (Gz lim bz) (λc' t' b'=>zb hm (Gz lim bz) (Qo m tb lim d bz part) n c' t' b') t b0 hJ0 i,?_⟩;have h8:(i+1)*8^n<=8*8^n:=Nat.mul_le_mul_right _ (by omega);have h9:(i+1)*8^n=i*8^n+8^n:=Nat.succ_mul i (8^n);have h10:8^(n+1)=8*8^n:=(by rw [Nat.pow_succ,Nat.mul_comm]);omega
    have hlt:decide ((i:Int)<m.ak)=true:=dT (by omega);have hS:=iX hI;have cy:(aS m (gF m tb lim part (f_ m tb lim d)) n c i (eO (aS m (gF m tb lim part (f_ m tb lim d)) n c) t i).1).2=false->bn m (gF m tb lim part (f_ m tb lim d)) (n+1) c t=aS m (gF m tb lim part (f_ m tb lim d)) n c i (eO (aS m (gF m tb lim part (f_ m tb lim d)) n c) t i).1:=λh=>by rw [←hS] at h ⊢;rw [dP,o9 h m.ak.toNat (by omega)]
    rw [hS];clear hS hI;generalize (eO (aS m (gF m tb lim part (f_ m tb lim d)) n c) t i).1=u at*;obtain ⟨hu1,hu2⟩:=hu;have htk:List.take c.length (uq8 eI u.zs)=uq8 eI c:=(by rw [←List.map_take,hu1]);have hcl:c.length<=6:=(by omega)
    have hih:=ih (c++[(i:Int)]) ⟨u.af+1,c++[(i:Int)],u.s⟩ (by simp;omega) (λx hx=>by
     rcases List.mem_append.1 hx with h|h
     . exact hc x h
     simp at h;omega) ⟨List.take_length,Nat.le_refl _⟩ kp
    simp only [List.length_append,uq5,uq7,Nat.zero_add] at hih;have cG:=kz (c++[(i:Int)]) (by simp) (by simp;omega);simp only [List.length_append,uq5,uq7,Nat.zero_add,Nat.add_sub_cancel] at cG;have ou:uq8 eI c++[eI (i:Int)]=uq8 eI (c++[(i:Int)]):=(by simp);have l7:bH m c i=(c.isEmpty|| !decide (fj ((i:Int)-c.getD (c.length-1) 0)>m.step)):=by
     unfold bH;congr 1;by_cases h:fj ((i:Int)-c.getD (c.length-1) 0)<=m.step
     . rw [decide_eq_true h,decide_eq_false (by omega)];rfl
     rw [decide_eq_false h,decide_eq_true (by omega)];rfl
    have dK:fZ m c i= !decide ((aZ (c++[(i:Int)]) c.length:Int)>m.same):=by
     unfold fZ;by_cases h:(aZ (c++[(i:Int)]) c.length:Int)<=m.same
     . rw [decide_eq_true h,decide_eq_false (by omega)];rfl
     rw [decide_eq_false h,decide_eq_true (by omega)];rfl
    simp -dsimp -implicitDefEqProofs only [go_sem,hlt];refine aj.draw mixed rfl ?_;have hfn:rM pG 216 .neq=some false:=rfl;rcases hk0:decide ((c.length:Int)>0) with _|_
    . have hce:c=[]:=by
       have:=of_decide_eq_false hk0;exact List.eq_nil_of_length_eq_zero (by omega)
      have hsT:bH m c i=true:=(by rw [hce];rfl);clear hce;simp -dsimp -implicitDefEqProofs only [go_sem,hfn,hk0];refine ⟨by exact rfl,hu2,by omega,?_⟩;refine aj.lx 13 mixed rfl ?_;simp -dsimp -implicitDefEqProofs only [bI,bd,uq2,uq3];have htl:List.take (c.length+1) (uq8 eI (c++[(i:Int)]))=uq8 eI (c++[(i:Int)]):=b6 (by simp);rcases hq2:decide ((aZ (c++[(i:Int)]) c.length:Int)>m.same) with _|_
      . have hcB:aS m (gF m tb lim part (f_ m tb lim d)) n c i u=bn m (gF m tb lim part (f_ m tb lim d)) n (c++[(i:Int)]) ⟨u.af+1,c++[(i:Int)],u.s⟩:=(by rw [aS,if_pos hsT,if_pos (by rw [dK,hq2];rfl),hu1]);rw [hcB] at cy ⊢;clear hcB;generalize bn m (gF m tb lim part (f_ m tb lim d)) n (c++[(i:Int)]) ⟨u.af+1,c++[(i:Int)],u.s⟩=w at*;obtain ⟨w,b⟩:=w;simp -dsimp -implicitDefEqProofs only [go_sem,htk,ou,htl];(refine an (cG) ?_;try simp -dsimp -implicitDefEqProofs only [go_sem, *]);refine ⟨by exact rfl,?_⟩;refine cX hih ⟨⟨?_,?_⟩,?_,?_⟩ ?_
        . simp -dsimp -implicitDefEqProofs only [go_sem]
        . simp -dsimp -implicitDefEqProofs only [go_sem];simp [ao,aq,ck,g_]
        . simp -dsimp -implicitDefEqProofs only [go_sem]
        . simp -dsimp -implicitDefEqProofs only [go_sem];simp
        rintro r m' ⟨hr,hm'⟩;rw [hr,hm'];clear hr hm';cases b with
        |false=>
         rw [cy rfl];simp -dsimp -implicitDefEqProofs only [go_sem];refine ⟨by omega,_,rfl,aM ?_ ?_⟩
         . simp -dsimp -implicitDefEqProofs only [go_sem]
         simp -dsimp -implicitDefEqProofs only [go_sem];simp [ao,aq,ck,g_]
        |true=>
         simp -dsimp -implicitDefEqProofs only [go_sem];exact ⟨by omega,⟨by omega,by omega⟩,by simp⟩
      have hcB:aS m (gF m tb lim part (f_ m tb lim d)) n c i u=(⟨u.af+1,c++[(i:Int)],u.s⟩,true):=(by rw [aS,if_pos hsT,if_neg (by rw [dK,hq2];exact λh=>by cases h),hu1]);rw [hcB];clear hcB cy;simp -dsimp -implicitDefEqProofs only [go_sem,htk,ou,htl];(refine an (cG) ?_;try simp -dsimp -implicitDefEqProofs only [go_sem, *]);exact ⟨by exact rfl,by omega,⟨by omega,by omega⟩,by simp⟩
    have hkp:=oT hk0;have hla:c.getD (c.length-1) 0=c[c.length-1]:=(by simp [List.getD_eq_getElem?_getD,show c.length-1<c.length by omega]);have ka:(uq8 eI u.zs)[c.length-1]? =some (eI (c.getD (c.length-1) 0)):=by have h1:(List.take c.length (uq8 eI u.zs))[c.length-1]? =(uq8 eI u.zs)[c.length-1]? :=(by rw [List.getElem?_take];simp;omega);rw [←h1,htk,hla];simp [show c.length-1<c.length by omega]
    have hlb:=hc _ (uq4 (show c.length-1<c.length by omega));rw [←hla] at hlb;generalize c.getD (c.length-1) 0=z at*;clear hla;have e1:((c.length:Int)-1).toNat=c.length-1:=(by omega);have qc:=jq ((i:Int)-z) (by omega);rcases hq:decide (fj ((i:Int)-z)>m.step) with _|_
    . have hsT:bH m c i=true:=(by rw [l7,hq];simp);simp -dsimp -implicitDefEqProofs only [go_sem,hfn,hk0,e1,ka];refine ⟨⟨by omega,by omega⟩,⟨by omega,by omega⟩,⟨by omega,by omega⟩,?_⟩;(refine an (qc) ?_;try simp -dsimp -implicitDefEqProofs only [go_sem, *]);refine ⟨by exact rfl,by omega,?_⟩;refine aj.lx 13 mixed rfl ?_;simp -dsimp -implicitDefEqProofs only [bI,bd,uq2,uq3];have htl:List.take (c.length+1) (uq8 eI (c++[(i:Int)]))=uq8 eI (c++[(i:Int)]):=b6 (by simp);rcases hq2:decide ((aZ (c++[(i:Int)]) c.length:Int)>m.same) with _|_
      . have hcB:aS m (gF m tb lim part (f_ m tb lim d)) n c i u=bn m (gF m tb lim part (f_ m tb lim d)) n (c++[(i:Int)]) ⟨u.af+1,c++[(i:Int)],u.s⟩:=(by rw [aS,if_pos hsT,if_pos (by rw [dK,hq2];rfl),hu1]);rw [hcB] at cy ⊢;clear hcB;generalize bn m (gF m tb lim part (f_ m tb lim d)) n (c++[(i:Int)]) ⟨u.af+1,c++[(i:Int)],u.s⟩=w at*;obtain ⟨w,b⟩:=w;simp -dsimp -implicitDefEqProofs only [go_sem,htl];(refine an (cG) ?_;try simp -dsimp -implicitDefEqProofs only [go_sem, *]);refine ⟨by exact rfl,?_⟩;refine cX hih ⟨⟨?_,?_⟩,?_,?_⟩ ?_
        . simp -dsimp -implicitDefEqProofs only [go_sem]
        . simp -dsimp -implicitDefEqProofs only [go_sem];simp [ao,aq,ck,g_]
        . simp -dsimp -implicitDefEqProofs only [go_sem]
        . simp -dsimp -implicitDefEqProofs only [go_sem];simp
        rintro r m' ⟨hr,hm'⟩;rw [hr,hm'];clear hr hm';cases b with
        |false=>
         rw [cy rfl];simp -dsimp -implicitDefEqProofs only [go_sem];refine ⟨by omega,_,rfl,aM ?_ ?_⟩
         . simp -dsimp -implicitDefEqProofs only [go_sem]
         simp -dsimp -implicitDefEqProofs only [go_sem];simp [ao,aq,ck,g_]
        |true=>
         simp -dsimp -implicitDefEqProofs only [go_sem];exact ⟨by omega,⟨by omega,by omega⟩,by simp⟩
      have hcB:aS m (gF m tb lim part (f_ m tb lim d)) n c i u=(⟨u.af+1,c++[(i:Int)],u.s⟩,true):=(by rw [aS,if_pos hsT,if_neg (by rw [dK,hq2];exact λh=>by cases h),hu1]);rw [hcB];clear hcB cy;simp -dsimp -implicitDefEqProofs only [go_sem,htl];(refine an (cG) ?_;try simp -dsimp -implicitDefEqProofs only [go_sem, *]);exact ⟨by exact rfl,by omega,⟨by omega,by omega⟩,by simp⟩
    have hsF:bH m c i=false:=by
     rw [l7,hq];cases c with
     |nil=>simp at hkp
     |cons=>rfl
    have hcB:aS m (gF m tb lim part (f_ m tb lim d)) n c i u=(u,true):=(by rw [aS,if_neg (by rw [hsF];exact λh=>by cases h)]);rw [hcB];clear hcB cy;simp -dsimp -implicitDefEqProofs only [go_sem,hfn,hk0,e1,ka];refine ⟨⟨by omega,by omega⟩,⟨by omega,by omega⟩,⟨by omega,by omega⟩,?_⟩;(refine an (qc) ?_;try simp -dsimp -implicitDefEqProofs only [go_sem, *]);exact ⟨by exact rfl,⟨by omega,by omega⟩,by simp⟩
  simp -dsimp -implicitDefEqProofs only [pz,bm,Nat.reduceDiv,Nat.reduceAdd,↓reduceIte,Nat.reduceEqDiff];have hlt:decide (((m.ak.toNat:Nat):Int)<m.ak)=false:=dF (by omega);simp -dsimp -implicitDefEqProofs only [go_sem,hlt];rw [dP];refine ⟨_,⟨by rw [hI],rfl⟩,aM ?_ ?_⟩
  . simp -dsimp -implicitDefEqProofs only [go_sem]
  simp -dsimp -implicitDefEqProofs only [go_sem];simp [ao,aq,ck,g_]
theorem VB (m:aL) (tb:lL) (lim d:Nat) (lu:aW m=true) (htl:tb.length<=1000) (GZ:∀i (hi:i<tb.length),tb[i].length=(tb.getD 0 []).length) (hwd:(tb.getD 0 []).length<=1000) (hlm:lim<=4000) (hIH:Qp m tb lim d):Qp m tb lim (d+1):=by
 intro part z hpl hpx htr hfb;have hG:Yp m tb lim d z.found.length part:=⟨lu,htl,GZ,hwd,hpl,hpx,hlm,hfb⟩;have s8:=aI lu
 have eZ:=Xe m lu tb lim d z.found.length part hG hIH m.ae.toNat [] ⟨0,[],(z,true)⟩ (by simp;omega) (λx hx=>by cases hx) ⟨rfl,Nat.le_refl _⟩ (by
  have h8:(8:Nat)^m.ae.toNat<=8^6:=Nat.pow_le_pow_right (by decide) (by omega)
  exact ⟨0,⟨htr,Nat.le_refl _⟩,by omega⟩)
 have hsp:=(iH m (gF m tb lim part (f_ m tb lim d)) m.ae.toNat [] ⟨0,[],(z,true)⟩ ⟨rfl,Nat.le_refl _⟩).2.1;rw [show a6 m m.ae.toNat []=bu m from rfl] at hsp;rw [Gy,←hsp];clear hsp;have hst:=Gw m tb part lu htl (by omega) GZ hwd hpx;generalize bn m (gF m tb lim part (f_ m tb lim d)) m.ae.toNat [] ⟨0,[],(z,true)⟩=w at*;have e:((part.length:Int)==(tb.length:Int))=false:=by simp;omega
 simp only [uq7,bj] at eZ;refine fL.cW 39 [.tmp 6] func256 (hv:= ?_);simp -dsimp -implicitDefEqProofs only [go_sem];refine aj.draw mixed rfl ?_;simp -dsimp -implicitDefEqProofs only [go_sem,e];refine ⟨by exact rfl,?_⟩;refine aj.draw mixed rfl ?_;simp -dsimp -implicitDefEqProofs only [go_sem];refine aH hst (by simp [ax,ao,aq,aF]) ?_;simp -dsimp -implicitDefEqProofs only [go_sem];refine ⟨by exact rfl,?_⟩;refine aj.lx 7 mixed rfl ?_;simp -dsimp -implicitDefEqProofs only [bI,bd,uq2,uq3];simp -dsimp -implicitDefEqProofs only [go_sem];refine ⟨by exact rfl,?_⟩;refine o4 1600000000 310000 16 [] func222 rfl rfl rfl rfl rfl (by exact oT rfl) ?_;simp -dsimp -implicitDefEqProofs only [go_sem];refine jk 1700000000 eZ ⟨?_,?_⟩ ⟨⟨?_,?_⟩,?_,?_⟩ ?_
 . simp -dsimp -implicitDefEqProofs only [go_sem]
 . simp -dsimp -implicitDefEqProofs only [go_sem]
 . simp -dsimp -implicitDefEqProofs only [go_sem]
 . simp -dsimp -implicitDefEqProofs only [go_sem];all_goals try (simp [ao,aq,ck,g_];done)
 . simp -dsimp -implicitDefEqProofs only [go_sem]
 . simp -dsimp -implicitDefEqProofs only [go_sem];all_goals try (simp;done)
 rintro r m' ⟨hr,hm'⟩;rw [hr,hm'];simp -dsimp -implicitDefEqProofs only [go_sem];refine ⟨_,rfl,aM ?_ ?_⟩
 . simp -dsimp -implicitDefEqProofs only [go_sem]
 simp -dsimp -implicitDefEqProofs only [go_sem];simp [ao,aq,ck]
theorem fL.Yq {P:Program} {f:FuncId} {m0:Mem} {x z:AV} {sh:Sh} {post:AV->Mem->Prop} (h:fL P f m0 [x,.arr sh [],z] post):fL P f m0 [x,.val (.slice none 0 0),z] post:=by
 refine ⟨h.1,λw φ fp S vs hsz hR=>h.2 w φ fp S vs hsz {hR with tm:=λt=> ?_,tl:=λt l af hl=> ?_}⟩
 . have:=hR.tm t;rw [bG] at this ⊢;match t,this with
   |0,this=>exact this
   |1,this=>
    have this:RV w S φ (.val (.slice none 0 0)) _:=this;obtain ⟨e,_⟩:=aR this;show RV w S φ (.arr sh []) _;rw [←e];exact .rd _ _ (.nil _ _)
   |2,this=>exact this
   |_+3,this=>exact this
 have:=hR.tl t l af;rw [bG] at this hl;match t,this,hl with
 |0,this,hl=>exact this hl
 |1,_,hl=>cases hl
 |2,this,hl=>exact this hl
 |_+3,this,hl=>exact this hl
theorem GA (m:aL) (tb:lL) (lim:Nat) (lu:aW m=true) (htl:tb.length<=1000) (GZ:∀i (hi:i<tb.length),tb[i].length=(tb.getD 0 []).length) (hwd:(tb.getD 0 []).length<=1000) (hlm:lim<=4000) (ht0:0<tb.length):∀d,Qp m tb lim d
 |0=>λpart z hpl hpx htr hfb=>by
  have s8:=aI lu;exact Vz m tb lim part z htl (by omega) (by omega) (λx hx=>by have:=(hpx x hx).1;omega) (by omega)
 |d+1=>VB m tb lim d lu htl GZ hwd hlm (GA m tb lim lu htl GZ hwd hlm ht0 d)
theorem GB {m:aL} {t:lL} {lim:Nat} (h:kZ m t lim=0):lim<=4000:=by
 unfold kZ at h;split at h
 . split at h
   . rename_i hi;simp only [bx,uq0,decide_eq_true_eq] at hi;omega
   exact absurd h (by decide)
 exact absurd h (by decide)
theorem GC (m:aL) (t:lL) (lim:Nat) (h:t.length<=1048576) (h2:∀x∈t,x.length<=1048576):Fn pG 160 [jQ m t,.val (.slice none 0 0),eI lim] true (λr=>tv r (lX m t lim)):=by
 refine Fn.cW 40 [.tmp 6,.tmp 7,.tmp 8] func160 (hv:= ?_);have hs:=zP m t lim h h2;unfold lX;by_cases hc:kZ m t lim=0
 . have s6:=GB hc;rw [if_pos hc];rw [hc] at hs;have e:((0:Int) != 0)=false:=rfl;have hsy:eW m t=true:=by
    unfold kZ at hc;by_cases hb:eW m t=true
    . exact hb
    rw [if_neg hb] at hc;exact absurd hc (by decide)
   have hF:MN m t []:=Vw hsy (by simp) (λx hx=>by cases hx);have hgo:=GA m t lim hF.pg hF.tl hF.row hF.wd s6 hF.t0 t.length [] ⟨0,false,[]⟩ (by simp) (λx hx=>by cases hx) (Nat.zero_le _) (by have:=hF.tl;have:=iW hsy;simp;omega);have hgo:=fL.Yq hgo;have hgf:=Cl (t:=t) (lim:=lim) hF.pg t.length [] ⟨0,false,[]⟩ (λx hx=>by cases hx) rfl (Nat.zero_le _) rfl;have hgl:=(Dq m t lim t.length [] ⟨0,false,[]⟩ (Nat.zero_le _)).le;have hok:=(kY (m:=m) (t:=t) (lim:=lim) t.length [] ⟨0,false,[]⟩ (λk h=>by cases h) (Nat.zero_le _) rfl).fl;rw [hgf] at hok ⊢;clear hgf;generalize f_ m t lim t.length [] ⟨0,false,[]⟩=w at*;simp -dsimp -implicitDefEqProofs only [go_sem];refine aa hs ?_;simp -dsimp -implicitDefEqProofs only [go_sem,e];have e1:decide ((1:Int)>0)=true:=rfl;refine bN 300000 25 [.tmp 8,.tmp 9] func211 rfl rfl rfl rfl rfl (by exact oT rfl) ?_;simp -dsimp -implicitDefEqProofs only [go_sem,e1,uq3,List.set_cons_zero,List.set_cons_succ];refine jk 1900000000 hgo ⟨?_,?_⟩ ⟨⟨?_,?_⟩,?_,?_⟩ ?_
   . simp -dsimp -implicitDefEqProofs only [go_sem]
   . simp -dsimp -implicitDefEqProofs only [go_sem]
   . simp -dsimp -implicitDefEqProofs only [go_sem]
   . simp -dsimp -implicitDefEqProofs only [go_sem];all_goals try (simp [ao,aq,ck];done)
   . simp -dsimp -implicitDefEqProofs only [go_sem]
   . simp -dsimp -implicitDefEqProofs only [go_sem];all_goals try (simp;done)
   rintro r m' ⟨hr,hm'⟩;rw [hr,hm'];obtain ⟨b,tr,st,fd⟩:=w;simp only at hgl ⊢;rcases fd with _|⟨f,_|⟨f2,r2⟩⟩
   . have e2:decide (((0:Nat):Int)>0)=false:=rfl;have e3:decide ((0:Int)>0)=false:=rfl;cases st
     . simp -dsimp -implicitDefEqProofs only [go_sem,e3,uq7,bj,fV];all_goals first|rfl|skip
     simp -dsimp -implicitDefEqProofs only [go_sem,e3,uq7,bj,fV];all_goals first|rfl|skip
   . have e2:decide (((0+1:Nat):Int)>0)=true:=rfl;have e3:decide (((1:Nat):Int)>0)=true:=rfl;have e4:decide ((1:Int)>0)=true:=rfl;have hfl:0<(f.map aP).length:=by
      have:=(hok f (by simp)).1;have:=hF.t0;simp only [uq7,Nat.zero_add] at*;rw [uq6];omega
     simp -dsimp -implicitDefEqProofs only [go_sem,e2,uq5,uq7,uq9,bj];refine aj.C3 300012 1 0 500000 [aQ f] (f.map aP) ⟨1,false⟩ (by decide) rfl rfl hfl rfl λu=> ?_;refine aj.Va ?_;refine aj.draw mixed rfl ?_;simp -dsimp -implicitDefEqProofs only [go_sem,List.set_cons_zero];((with_reducible and_intros);all_goals try first|omega|exact rfl);refine hk.untold 6 500000 0 ⟨1,false⟩ (f.map aP) u rfl rfl ?_;refine hk.go ?_;simp -dsimp -implicitDefEqProofs only [go_sem,fV];all_goals first|(simp;done)|skip
   simp at hgl
 rw [if_neg hc];have e:(kZ m t lim != 0)=true:=bne_iff_ne.2 hc;simp -dsimp -implicitDefEqProofs only [go_sem];refine aa hs ?_;simp -dsimp -implicitDefEqProofs only [go_sem,e];all_goals first|rfl|skip
theorem zQ (m:aL) (t:lL) (lim:Nat) (h:t.length<=1048576) (h2:∀x∈t,x.length<=1048576):Fn pG 116 [jQ m t,eI lim] true (λr=>tv r (lX m t lim)):=by
 refine Fn.cW 13 [.tmp 4,.tmp 5,.tmp 6] func116 (hv:= ?_);have hf:Fn pG 160 [jQ m t,.val (.slice none 0 0),eI lim] true (· =lX m t lim):=Fn.nil (Fn.mono (GC m t lim h h2) λx hx=>⟨_,hx,rfl⟩);rcases FY m t lim with ⟨f,tr,e,_⟩|⟨c,_,e⟩
 . rw [e] at hf ⊢;simp -dsimp -implicitDefEqProofs only [go_sem];refine aa hf ?_;simp -dsimp -implicitDefEqProofs only [go_sem];all_goals first|(simp;done)|skip
 rw [e] at hf ⊢;simp -dsimp -implicitDefEqProofs only [go_sem];refine aa hf ?_;simp -dsimp -implicitDefEqProofs only [go_sem];all_goals first|rfl|skip
theorem IZ {α:Type} (t:List α) (at' i:Nat) (h:i<t.length):(t.take (i+1)).eraseIdx at'=(t.take i).eraseIdx at'++if i=at' then [] else [t[i]]:=by
 rw [List.take_succ_eq_append_getElem h];have hl:(t.take i).length=i:=by simp;omega
 by_cases e:i=at'
 . subst e;rw [if_pos rfl,List.append_nil,List.eraseIdx_of_length_le (l:=t.take i) (by omega),List.eraseIdx_append_of_length_le (by omega),hl,Nat.sub_self];simp
 rw [if_neg e];by_cases h2:at'<i
 . rw [List.eraseIdx_append_of_lt_length (by omega)]
 rw [List.eraseIdx_append_of_length_le (by omega),List.eraseIdx_of_length_le (by simp;omega),List.eraseIdx_of_length_le (by omega)]
theorem sY (t:lL) (at':Nat) (h:t.length<=1000) (h2:∀x∈t,x.length<=1048576):Fn pG 95 [aQ t,eI at'] false (· =aQ (t.eraseIdx at')):=by
 refine Fn.bY 26 [.tmp 4] func95 (hv:= ?_);have Nb:=λi h=>IZ t at' i h;have fS:(t.take t.length).eraseIdx at'=t.eraseIdx at':=by rw [List.take_length]
 have hlen:∀i,((t.take i).eraseIdx at').length<=1000:=λi=>by have:=List.length_eraseIdx_le (t.take i) at';simp at this;omega
 have h0:(t.take 0).eraseIdx at'=[]:=by simp
 generalize hG:(λi=>(t.take i).eraseIdx at')=G at*;have eG:∀i,(t.take i).eraseIdx at'=G i:=λi=>by rw [←hG]
 simp only [eG] at Nb fS hlen h0;clear hG eG;simp -dsimp -implicitDefEqProofs only [go_sem];refine aj.up [0,1] [10,22,23,24] [7] t.length (λ_=>True) (λi=>[(6,eI i),(5,.ref 7 0 0 (G i).length)]) (λi=>[(7,.row 0 ⟨1,false⟩ (G i).isEmpty ((G i).map aP))]) trivial ?_ rfl (λi hi _=> ?_) (λ_=> ?_)
 . rw [h0];simp -dsimp -implicitDefEqProofs only [go_sem,List.isEmpty_nil,bj,uq7]
 . have gi:=get_some hi;have li:=aE hi;have ho:=tV t[i] (h2 _ (uq4 hi));have hs:=Nb i hi;have YT:=hlen i;have hE:∀C:lL,C.isEmpty=false\/C.length=0:=λC=>by cases C with|nil=>exact .inr rfl|cons=>exact .inl rfl
   generalize t[i]=x at*;have e2:=λK:lL=>show (K++[x]).map aP=K.map aP++[aP x] by simp
   have e3:=λK:lL=>show (K++[x]).isEmpty=false by simp
   clear Nb hlen;generalize G i=K at*;generalize G (i+1)=K2 at*;have tK:(K.map aP).take K.length=K.map aP:=b6 (by simp);by_cases e:i=at'
   . rw [if_pos e,List.append_nil] at hs;subst hs;have ee:((i:Int) != (at':Int))=false:=(by rw [e];simp);simp -dsimp -implicitDefEqProofs only [go_sem,li,ee];((with_reducible and_intros);all_goals try first|(refine ⟨?_,?_⟩<;>omega)|exact rfl)
   rw [if_neg e] at hs;subst hs;have ee:((i:Int) != (at':Int))=true:=(by simp;omega);simp -dsimp -implicitDefEqProofs only [go_sem,gi,li,ee];((with_reducible and_intros);all_goals try omega);refine au ho (by simp [ax,ao,aF]) ?_;simp -dsimp -implicitDefEqProofs only [go_sem];refine .inr ⟨by omega,hE K,⟨by omega,by omega⟩,?_⟩;simp -dsimp -implicitDefEqProofs only [go_sem,e2,e3];all_goals try exact rfl
 rw [fS];generalize t.eraseIdx at'=K at*;simp -dsimp -implicitDefEqProofs only [go_sem,ay]
open Go.Lib
structure Dk where
 m:aL
 a:lL
 k:lL
abbrev mV (d:Dk):AV:=WX d.m d.a d.k
def k_ (d:Dk):Bool:=gR d.m d.a d.k
def Nh:Dk:=⟨⟨4,5,3,2,2⟩,[],[]⟩
inductive Dr where
 |la (m:aL)
 |key (x y:List UInt8)
 |drop (n:Nat)
 |find (n:Nat)
 |Ni
 |cj
 |pj
 |count
 |j7
 |lock (n:Nat)
 |opens (x:List UInt8)
 |pn (n s:Nat)
def v_ (d:Dk) (x y:lU):Dk × Int:=
 if (j_ d.m x).2=0 then
  if y.all dO=true then
   if gR d.m (d.a++[bq y]) (d.k++[(j_ d.m x).1])=true then (⟨d.m,d.a++[bq y],d.k++[(j_ d.m x).1]⟩,0) else (d,2)
  else (d,6)
 else (d,(j_ d.m x).2)
def gN (m:aL) (t:lL) (lim:Nat):lL × Int × Int:=
 if kZ m t lim=0 then
  (match (dN m t lim t.length [] ⟨0,false,[]⟩).2.found with
    |f::_=>(f,((dN m t lim t.length [] ⟨0,false,[]⟩).2.tries:Int),0)
    | []=>([],0,if (dN m t lim t.length [] ⟨0,false,[]⟩).2.stop=true then 3 else 4))
 else ([],0,kZ m t lim)
theorem GD (m:aL) (t:lL) (lim:Nat):tv (lX m t lim) (.aX [aQ (gN m t lim).1,eI (gN m t lim).2.1,eI (gN m t lim).2.2]):=by
 unfold lX gN fV;generalize dN m t lim t.length [] ⟨0,false,[]⟩=F;obtain ⟨b,tr,st,fd⟩:=F;split
 . cases fd with
   |nil=>exact ⟨rfl,rfl,rfl,rfl⟩
   |cons f r=>exact ⟨rfl,rfl,rfl,rfl⟩
 exact ⟨rfl,rfl,rfl,rfl⟩
theorem Qq {m:aL} {t:lL} {lim:Nat} (h:(gN m t lim).2.2=0):eW m t=true/\(gN m t lim).1.length=t.length/\∀k∈(gN m t lim).1,fC m k=true:=by
 unfold gN at h ⊢;by_cases hc:kZ m t lim=0
 . have hs:eW m t=true:=by
    cases h:eW m t with
    |true=>rfl
    |false=>rw [kZ,h,if_neg (by simp)] at hc;exact absurd hc (by decide)
   rw [if_pos hc] at h ⊢;have hok:=kY (m:=m) (t:=t) (lim:=lim) t.length [] ⟨0,false,[]⟩ (λk h=>by cases h) (Nat.zero_le _) rfl;generalize dN m t lim t.length [] ⟨0,false,[]⟩=F at*;obtain ⟨b,tr,st,fd⟩:=F;obtain ⟨g1,g2,g3,g4⟩:=hok;simp only at g1 g2 g3 g4 h ⊢;cases fd with
   |nil=>
    cases st<;>simp at h
   |cons f r=>
    have hf:=g4 f (List.mem_cons_self ..);have hn:=aI (lS hs);refine ⟨hs,by simpa using hf.1,λk hk=> ?_⟩;exact beq_iff_eq.2 (qy.fault (kj (by omega) (hf.2 k hk)))
 rw [if_neg hc] at h;exact absurd h hc
def dQ (d:Dk):Dr->Dk × Int
 | .la m=>if aW m=true then (⟨m,[],[]⟩,0) else (d,1)
 | .key x y=>v_ d x y
 | .drop n=>if n<d.k.length then (⟨d.m,d.a.eraseIdx n,d.k.eraseIdx n⟩,0) else (d,2)
 | .find n=>if (gN d.m d.a n).2.2=0 then (⟨d.m,d.a,(gN d.m d.a n).1⟩,0) else (d,(gN d.m d.a n).2.2)
 |_=>(d,0)
def b8 (e:lU) (d:Dk):Dr->lU × Int
 | .Ni=>(itoa (mT d.m d.a d.k).length,bT d.m d.a d.k)
 | .cj=>(itoa (if bg d.m d.a d.k=true then ((cj d.m d.a d.k).length:Int) else 0),if bg d.m d.a d.k=true then 0 else 1)
 | .count=>(itoa (if aW d.m=true then iM d.m else 0),if aW d.m=true then 0 else 1)
 | .j7=>(itoa (if bg d.m d.a d.k=true then oq d.m d.a d.k else 0),if bg d.m d.a d.k=true then 0 else 1)
 | .lock n=>if bT d.m d.a d.k=0 then if n<(d.a.getD 0 []).length then (qa (pins d.m (bO d.m d.a d.k n)),0) else ([],2) else ([],bT d.m d.a d.k)
 | .opens x=>if (j_ d.m x).2=0 then if (Cb d.m d.a d.k (j_ d.m x).1).2=0 then (yX (Cb d.m d.a d.k (j_ d.m x).1).1,0) else (e,(Cb d.m d.a d.k (j_ d.m x).1).2) else ([],(j_ d.m x).2)
 | .pj=>(match ze d.m d.a d.k with| []=>[45]|g::_=>k7 g,if bg d.m d.a d.k=true then 0 else 1)
 | .pn n s=>if n<d.k.length then j4 d.m (d.k.getD n []) 0 s else ([],2)
 |_=>([],0)
theorem MZ (e e':lU) (d:Dk) (c:Dr):(b8 e d c).2=(b8 e' d c).2:=by
 cases c<;>simp only [b8];split
 . split<;>rfl
 rfl
theorem M0 (e e':lU) (d:Dk) (c:Dr) (h:(b8 e d c).2=0):(b8 e d c).1=(b8 e' d c).1:=by
 cases c<;>simp only [b8];simp only [b8] at h;split at h
 . rename_i h1;rw [if_pos h1,if_pos h1];split at h
   . rename_i h2;rw [if_pos h2,if_pos h2]
   rename_i h2;exact absurd h h2
 rename_i h1;exact absurd h h1
def zj:Dr->Bool
 | .la _=>true
 | .key _ _=>true
 | .drop _=>true
 | .find _=>true
 |_=>false
inductive mU:List (List UInt8)->List Int->Dr->Prop where
 |la (x1 x2 x3 x4 x5:List UInt8) (n1 n2 n3 n4 n5:Nat):(n1<=9999999999999/\n2<=9999999999999/\n3<=9999999999999/\n4<=9999999999999/\n5<=9999999999999)->mU [gU,x1,x2,x3,x4,x5] [n1,n2,n3,n4,n5] (.la ⟨n1,n2,n3,n4,n5⟩)
 |key (x y:List UInt8):mU [k8,x,y] [] (.key x y)
 |drop (x:List UInt8) (n:Nat):n<=9999999999999->mU [iI,x] [n] (.drop n)
 |find (x:List UInt8) (n:Nat):n<=9999999999999->mU [gZ,x] [n] (.find n)
 |Ni:mU [iZ] [] .Ni
 |cj:mU [e_] [] .cj
 |pj:mU [eu] [] .pj
 |count:mU [fQ] [] .count
 |j7:mU [dm] [] .j7
 |lock (x:List UInt8) (n:Nat):n<=9999999999999->mU [je,x] [n] (.lock n)
 |opens (x:List UInt8):mU [dv,x] [] (.opens x)
 |pn (x y:List UInt8) (n s:Nat):(n<=9999999999999/\s<=9999999999999)->mU [dX,x,y] [n,s] (.pn n s)
theorem M1 (w:lU) (h:0<=cD w):(cD w=0/\(w=iZ\/w=e_\/w=eu\/w=fQ\/w=dm))\/(cD w=1/\(w=iI\/w=gZ\/w=je))\/(cD w=2/\w=dX)\/(cD w=5/\w=gU)\/(cD w=11/\w=dv)\/(cD w=12/\w=k8):=by
 unfold cD at h ⊢;rcases Classical.em (w=iZ) with q|q
 . simp only [if_pos q];simp [q]
 simp only [if_neg q] at h ⊢;rcases Classical.em (w=e_) with q2|q2
 . simp only [if_pos q2];simp [q2]
 simp only [if_neg q2] at h ⊢;rcases Classical.em (w=eu) with q3|q3
 . simp only [if_pos q3];simp [q3]
 simp only [if_neg q3] at h ⊢;rcases Classical.em (w=fQ) with q4|q4
 . simp only [if_pos q4];simp [q4]
 simp only [if_neg q4] at h ⊢;rcases Classical.em (w=dm) with q5|q5
 . simp only [if_pos q5];simp [q5]
 simp only [if_neg q5] at h ⊢;rcases Classical.em (w=iI) with q6|q6
 . simp only [if_pos q6];simp [q6]
 simp only [if_neg q6] at h ⊢;rcases Classical.em (w=gZ) with q7|q7
 . simp only [if_pos q7];simp [q7]
 simp only [if_neg q7] at h ⊢;rcases Classical.em (w=je) with q8|q8
 . simp only [if_pos q8];simp [q8]
 simp only [if_neg q8] at h ⊢;rcases Classical.em (w=dX) with q9|q9
 . simp only [if_pos q9];simp [q9]
 simp only [if_neg q9] at h ⊢;rcases Classical.em (w=gU) with q10|q10
 . simp only [if_pos q10];simp [q10]
 simp only [if_neg q10] at h ⊢;rcases Classical.em (w=dv) with q11|q11
 . simp only [if_pos q11];simp [q11]
 simp only [if_neg q11] at h ⊢;rcases Classical.em (w=k8) with q12|q12
 . simp only [if_pos q12];simp [q12]
 simp only [if_neg q12] at h;exact absurd h (by decide)
theorem jW {w:lU} (h:(dU w).2=true):∃n:Nat,(dU w).1=n/\n<=9999999999999:=by
 obtain ⟨v1,v2⟩:=tN h;obtain ⟨h1,h2,h3⟩:=(t_ w).2 h;have hd:∀c∈w,48<=c.toNat/\c.toNat<=57:=by intro c hc;rw [fg v1] at v2;exact pQ _ c (by rw [←v2];exact hc)
 have hb:=sH w 0 hd;have hp:10^w.length<=10000000000000:=J2 h3;have hv:(dU w).1=(jP 0 w:Nat):=by
  unfold dU at h ⊢;split
  . rename_i hc;rw [if_pos hc] at h;cases h
  rename_i hc;rw [if_neg hc] at h;split
  . rfl
  rename_i hd2;rw [if_neg hd2] at h;cases h
 exact ⟨jP 0 w,hv,by omega⟩
theorem Kb {α:Type} {r:List α} (h:r.length=2):∃x y,r=[x,y]:=by
 match r,h with
 | [x,y],_=>exact ⟨x,y,rfl⟩
theorem Cm {s:lU} (h:(d_ s).2.2=true):∃c,mU (d_ s).1 (d_ s).2.1 c:=by
 unfold d_ at h ⊢;generalize cT 32 s=ws at*;split at h
 . cases h
 rename_i h1;rw [if_neg h1];have hk0:¬cD (ws.headD [])<0:=λq=>h1 (.inl q);have hl:(ws.length:Int)=(cD (ws.headD [])).tmod 10+1:=Classical.not_not.1 λq=>h1 (.inr q);clear h1;cases ws with
 |nil=>
  have:(0:Int)<=(cD (([]:List lU).headD [])).tmod 10:=Int.tmod_nonneg _ (by omega);simp only [uq7] at hl;omega
 |cons w r=>
 simp only [List.headD_cons,uq5,uq2,uq3] at h hk0 hl ⊢;have cO:=M1 w (by omega);split at h
 . rename_i h10;rw [if_pos h10];rcases cO with ⟨e,_⟩|⟨e,_⟩|⟨e,_⟩|⟨e,_⟩|⟨e,q⟩|⟨e,q⟩
   . omega
   . omega
   . omega
   . omega
   . rw [e] at hl;have hl:((r.length+1:Nat):Int)=2:=hl;obtain ⟨x,rfl⟩:=List.length_eq_one_iff.1 (show r.length=1 by omega);subst q;exact ⟨_,.opens x⟩
   rw [e] at hl;have hl:((r.length+1:Nat):Int)=3:=hl;obtain ⟨x,y,rfl⟩:=Kb (show r.length=2 by omega);subst q;exact ⟨_,.key x y⟩
 rename_i h10;rw [if_neg h10];split at h
 . rename_i hv;rw [if_pos hv];have hv:=List.all_eq_true.1 hv;rcases cO with ⟨e,q⟩|⟨e,q⟩|⟨e,q⟩|⟨e,q⟩|⟨e,_⟩|⟨e,_⟩
   . rw [e] at hl;have hl:((r.length+1:Nat):Int)=1:=hl;obtain rfl:=List.eq_nil_of_length_eq_zero (show r.length=0 by omega);rcases q with rfl|rfl|rfl|rfl|rfl
     . exact ⟨_,.Ni⟩
     . exact ⟨_,.cj⟩
     . exact ⟨_,.pj⟩
     . exact ⟨_,.count⟩
     exact ⟨_,.j7⟩
   . rw [e] at hl;have hl:((r.length+1:Nat):Int)=2:=hl;obtain ⟨x,rfl⟩:=List.length_eq_one_iff.1 (show r.length=1 by omega);obtain ⟨n,hn,hb⟩:=jW (hv x (by simp));simp only [uq9,bj,hn];rcases q with rfl|rfl|rfl
     . exact ⟨_,.drop x n hb⟩
     . exact ⟨_,.find x n hb⟩
     exact ⟨_,.lock x n hb⟩
   . rw [e] at hl;have hl:((r.length+1:Nat):Int)=3:=hl;obtain ⟨x,y,rfl⟩:=Kb (show r.length=2 by omega);obtain ⟨n,hn,hb⟩:=jW (hv x (by simp));obtain ⟨n2,hn2,hb2⟩:=jW (hv y (by simp));simp only [uq9,bj,hn,hn2];subst q;exact ⟨_,.pn x y n n2 ⟨hb,hb2⟩⟩
   . rw [e] at hl;have hl:((r.length+1:Nat):Int)=6:=hl;match r,hl with
     | [x1,x2,x3,x4,x5],_=>
       obtain ⟨n1,e1,b1⟩:=jW (hv x1 (by simp));obtain ⟨n2,e2,b2⟩:=jW (hv x2 (by simp));obtain ⟨n3,e3,b3⟩:=jW (hv x3 (by simp));obtain ⟨n4,e4,b4⟩:=jW (hv x4 (by simp));obtain ⟨n5,e5,b5⟩:=jW (hv x5 (by simp));simp only [uq9,bj,e1,e2,e3,e4,e5];subst q;exact ⟨_,.la x1 x2 x3 x4 x5 n1 n2 n3 n4 n5 ⟨b1,b2,b3,b4,b5⟩⟩
     | [],hl=>simp at hl
     | [_],hl=>simp at hl
     | [_,_],hl=>simp at hl
     | [_,_,_],hl=>simp at hl
     | [_,_,_,_],hl=>simp at hl
     |_::_::_::_::_::_::_,hl=>simp at hl;omega
   . omega
   omega
 cases h
noncomputable def Cn (s:lU):Option Dr:=if h:(d_ s).2.2=true then some (Cm h).choose else none
theorem zk {s:lU} (h:(d_ s).2.2=true):∃c,Cn s=some c/\mU (d_ s).1 (d_ s).2.1 c:=⟨_,by rw [Cn,dif_pos h],(Cm h).choose_spec⟩
theorem rA {s:lU} (h:(d_ s).2.2=false):Cn s=none:=by rw [Cn,dif_neg (by rw [h];simp)]
def sZ (c:Int):lU:=[101,114,114,111,114,32]++itoa c
def VC (d:Dk) (c:Dr):Dk × lU:=
 if zj c=true then (if (dQ d c).2=0 then ((dQ d c).1,[111,107]) else (d,sZ (dQ d c).2))
 else if (b8 [] d c).2=0 then (d,(b8 [] d c).1) else (d,sZ (b8 [] d c).2)
noncomputable def ly (d:Dk) (l:lU):Dk × lU:=match Cn l with
 |some c=>VC d c
 |none=>(d,sZ 6)
noncomputable def vK (p:Dk × List lU) (l:lU):Dk × List lU:=((ly p.1 l).1,p.2++[(ly p.1 l).2])
noncomputable def ew (ls:List lU):Dk × List lU:=ls.foldl vK (Nh,[])
theorem zl:ew []=(Nh,[]):=rfl
theorem Co (ls:List lU) (l:lU):ew (ls++[l])=vK (ew ls) l:=by simp [ew]
theorem uh {ls:List lU} {i:Nat} (h:i<ls.length):ew (ls.take (i+1))=vK (ew (ls.take i)) ls[i]:=by rw [List.take_succ_eq_append_getElem h,Co]
structure Wf (d:Dk):Prop where
 pg:aW d.m=true
 num:(2<=d.m.ae/\d.m.ae<=6)/\2<=d.m.ak/\d.m.ak<=8
 al:d.a.length<=10
 ar:∀x∈d.a,x.length<=12
 kl:d.k.length=d.a.length
 kr:∀x∈d.k,fC d.m x=true
 kn:∀x∈d.k,x.length<=6
 tb:d.a=[]\/iL d.a=true
theorem ui {t:lL} (h:iL t=true):∀x∈t,gm (t.getD 0 []).length x=true:=by simp only [iL,uq0,List.all_eq_true] at h;exact h.2
theorem Cp {n:Nat} {x:lI} (h:gm n x=true):x.length=n/\x.length<=12:=by simp only [gm,uq0,beq_iff_eq,decide_eq_true_eq] at h;exact ⟨h.1.1.1,h.1.2⟩
theorem XO {d:Dk} (h:k_ d=true):Wf d:=by
 simp only [k_,gR,uq0,Bool.or_eq_true,beq_iff_eq,List.all_eq_true] at h;obtain ⟨⟨⟨h1,h2⟩,h3⟩,h4⟩:=h;have hn:=aI h1;obtain ⟨⟨n1,n2⟩,n3,n4⟩:=hn;have htb:d.a=[]\/iL d.a=true:=by
  rcases h2 with h2|h2
  . exact .inl (List.eq_nil_of_length_eq_zero (by omega))
  exact .inr h2
 refine ⟨h1,⟨⟨by omega,by omega⟩,by omega,by omega⟩,?_,?_,by omega,h4,?_,htb⟩
 . rcases htb with e|e
   . rw [e];simp
   exact (mQ e).2.1
 . rcases htb with e|e
   . rw [e];simp
   exact λx hx=>(Cp (ui e x hx)).2
 intro x hx;have:=(gv (h4 x hx)).1;omega
theorem I0 {d:Dk} (h1:aW d.m=true) (h2:d.a=[]\/iL d.a=true) (h3:d.k.length=d.a.length) (h4:∀x∈d.k,fC d.m x=true):k_ d=true:=by
 simp only [k_,gR,uq0,Bool.or_eq_true,beq_iff_eq,List.all_eq_true];refine ⟨⟨⟨h1,?_⟩,by omega⟩,h4⟩;rcases h2 with h2|h2
 . left;rw [h2];rfl
 exact .inr h2
theorem VD:k_ Nh=true:=by decide
theorem qB {α:Type} {xs:List α} {i:Nat} {x:α} (h:x∈xs.eraseIdx i):x∈xs:=List.mem_of_mem_eraseIdx h
theorem I1 {t:lL} (h:iL t=true) (i:Nat):t.eraseIdx i=[]\/iL (t.eraseIdx i)=true:=by
 have hr:=ui h;have hn:=mQ h;cases he:t.eraseIdx i with
 |nil=>exact .inl rfl
 |cons x r=>
  right;have hm:∀y∈x::r,gm (t.getD 0 []).length y=true:=λy hy=>hr y (qB (i:=i) (by rw [he];exact hy));have hx:=(Cp (hm x (by simp))).1;have hl:=List.length_eraseIdx_le t i;rw [he] at hl;simp only [iL,uq0,decide_eq_true_eq,List.all_eq_true,List.getD_cons_zero];rw [hx];exact ⟨⟨by simp,by omega⟩,hm⟩
theorem VE {d:Dk} (h:k_ d=true) (c:Dr):k_ (dQ d c).1=true:=by
 have hF:=XO h;cases c with
 |la m=>
  simp only [dQ];split
  . rename_i hm;exact I0 hm (.inl rfl) rfl (by simp)
  exact h
 |key x y=>
  simp only [dQ,v_];split
  . split
    . split
      . rename_i hd;exact hd
      exact h
    exact h
  exact h
 |drop n=>
  simp only [dQ];split
  . rename_i hn;refine I0 hF.pg ?_ ?_ λx hx=>hF.kr x (qB hx)
    . rcases hF.tb with e|e
      . left;simp only;rw [e];rfl
      exact I1 e n
    have:=hF.kl;simp only;rw [List.length_eraseIdx_of_lt (by omega),List.length_eraseIdx_of_lt (by omega)];omega
  exact h
 |find n=>
  simp only [dQ];split
  . rename_i hn;obtain ⟨g1,g2,g3⟩:=Qq hn;exact I0 hF.pg hF.tb g2 g3
  exact h
 |_=>exact h
theorem VF {d:Dk} (h:k_ d=true) (c:Dr):k_ (VC d c).1=true:=by
 unfold VC;split
 . split
   . exact VE h c
   exact h
 split<;>exact h
theorem I2 {d:Dk} (h:k_ d=true) (l:lU):k_ (ly d l).1=true:=by
 unfold ly;split
 . exact VF h _
 exact h
theorem Ds (ls:List lU):∀i,k_ (ew (ls.take i)).1=true
 |0=>by rw [bd,zl];exact VD
 |i+1=>by
  by_cases h:i<ls.length
  . rw [uh h];exact I2 (Ds ls i) _
  rw [b6 (by omega),←b6 (show ls.length<=i by omega)];exact Ds ls i
theorem wu (ls:List lU):(ew ls).2.length=ls.length:=by
 have:∀(ls:List lU) p,(ls.foldl vK p).2.length=p.2.length+ls.length:=by
  intro ls;induction ls with
  |nil=>intro p;rfl
  |cons l ls ih=>intro p;rw [List.foldl_cons,ih,vK];simp;omega
 rw [ew,this];simp
theorem dkA {d:Dk} (hk:k_ d=true):Wf d/\d.a.length<=1048576/\(∀x∈d.a,x.length<=1048576)/\d.k.length<=1048576/\∀x∈d.k,x.length<=1048576:=by (have hF:=XO hk;have ha1:d.a.length<=1048576:=(by have:=hF.al;omega);have ha2:∀x∈d.a,x.length<=1048576:=(λx hx=>by have:=hF.ar x hx;omega);have hk1:d.k.length<=1048576:=(by have:=hF.al;have:=hF.kl;omega);have hk2:∀x∈d.k,x.length<=1048576:=(λx hx=>by have:=hF.kn x hx;omega));exact ⟨hF,ha1,ha2,hk1,hk2⟩
theorem Qr (m:aL) (t:lL) (lim:Nat) (h:t.length<=1048576) (h2:∀x∈t,x.length<=1048576):
 Fn pG 116 [jQ m t,eI lim] true (· = .aX [aQ (gN m t lim).1,eI (gN m t lim).2.1,eI (gN m t lim).2.2]):=by
 have h1:Fn pG 116 [jQ m t,eI lim] true (· =lX m t lim):=Fn.nil (Fn.mono (zQ m t lim h h2) λx hx=>⟨_,hx,rfl⟩);exact Fn.nil (Fn.mono h1 λx hx=>⟨_,by rw [hx];exact GD m t lim,rfl⟩)
theorem Qs (m:aL) (t:lL) (lim:Nat) (h:t.length<=1048576) (h2:∀x∈t,x.length<=1048576):Fn pG 96 [jQ m t,eI lim] false (· =lX m t lim):=by
 by_cases hl:lim<=4000
 . exact De m t lim h h2 hl
 have hc:=B3 m t lim h h2;have hne:kZ m t lim≠0:=λe=>hl (GB e);have hz:(kZ m t lim != 0)=true:=bne_iff_ne.2 hne;refine Fn.bY 21 [.tmp 4,.tmp 5,.tmp 6] func96 (hv:= ?_);unfold lX;rw [if_neg hne];simp -dsimp -implicitDefEqProofs only [go_sem];refine aa hc ?_;simp -dsimp -implicitDefEqProofs only [go_sem,hz]
theorem Qt (m:aL) (t:lL) (lim:Nat) (h:t.length<=1048576) (h2:∀x∈t,x.length<=1048576):
 Fn pG 96 [jQ m t,eI lim] false (· = .aX [aQ (gN m t lim).1,eI (gN m t lim).2.1,eI (gN m t lim).2.2]):=
 Fn.y5 (Fn.mono (Qs m t lim h h2) λx hx=>⟨_,by rw [hx];exact GD m t lim,rfl⟩)
theorem vL (t:lL) (h:t.length<=1000) (h2:∀x∈t,x.length<=1048576):n8 pG 31 [aQ t] ⟨1,false⟩ (t.map aP):=by
 refine n8.cW 21 [.tmp 2] func31 (hv:= ?_);simp -dsimp -implicitDefEqProofs only [go_sem];refine aj.up [0] [8,17,18,19] [5] t.length (λ_=>True) (λi=>[(4,eI i),(3,.ref 5 0 0 i)]) (λi=>[(5,.row 0 ⟨1,false⟩ (i==0) ((t.take i).map aP))]) trivial ?_ rfl (λi hi _=> ?_) (λ_=> ?_)
 . simp -dsimp -implicitDefEqProofs only [go_sem]
 . have gi:=get_some hi;have li:=aE hi;have ho:=tV t[i] (h2 _ (uq4 hi));have e2:(t.take (i+1)).map aP=(t.take i).map aP++[aP t[i]]:=(by rw [List.take_succ_eq_append_getElem hi,List.map_append];rfl);have hln:(t.take i).length=i:=(by simp;omega);have e0:(i+1==0)=false:=rfl;rw [e0,e2];clear e0 e2;generalize t.take i=F at*;generalize t[i]=x at*;have tF:(F.map aP).take i=F.map aP:=b6 (by simp;omega);simp -dsimp -implicitDefEqProofs only [go_sem,gi,li];((with_reducible and_intros);all_goals try omega);refine au ho (by simp [ax,ao,aF]) ?_;simp -dsimp -implicitDefEqProofs only [go_sem];refine .inr ⟨by omega,by omega,(by cases i with|zero=>exact .inr rfl|succ i=>exact .inl rfl),⟨by omega,by omega⟩,?_⟩;simp -dsimp -implicitDefEqProofs only [go_sem,tF];all_goals try exact rfl
 rw [List.take_length];simp -dsimp -implicitDefEqProofs only [go_sem,ay];refine .inr ⟨5,0,by simp,?_⟩;cases t with
 |nil=>exact .inr ⟨rfl,rfl⟩
 |cons x r=>exact .inl rfl
theorem dZ.mk {m:Mem} {l v n:Nat} {ys:lA} (hn:n=ys.length) (h:ah m l=some (.row v ⟨1,false⟩ true ys)):dZ m (.ref l v 0 n) ys (some l):=by subst hn;exact .ref l v ys h
theorem pq {Lb La Lc:Nat} {post:lA->lA->lA->Prop} {m:Mem} {x1 x2 x3 x4 x5 xa xc:AV} {ya yc:lA} {oa oc:Option Nat} (h1:ah m Lb=some (.box 0 [x1,x2,x3,x4,x5,xa,xc])) (hl:aq [x1,x2,x3,x4,x5]=[]) (ha:dZ m xa ya oa) (hc:dZ m xc yc oc)
 (hn:∀l,oa=some l->oc≠some l) (h2:∀l,oa=some l->l=La\/l<1000000000) (h3:∀l,oc=some l->l=Lc\/l<1000000000) (hp:post [x1,x2,x3,x4,x5] ya yc):WH Lb La Lc post m:=
 ⟨[x1,x2,x3,x4,x5],xa,xc,ya,yc,oa,oc,h1,hl,ha,hc,hn,h2,h3,hp⟩
theorem gV (Lb La Lc va vk:Nat) (cs ya yc:lA):vp Lb La Lc va vk cs ya yc=[(Lb,.box 0 (cs++[.ref La va 0 ya.length,.ref Lc vk 0 yc.length])),(La,.row va ⟨1,false⟩ true ya),(Lc,.row vk ⟨1,false⟩ true yc)]:=rfl
abbrev Y5 (m:aL):lA:=[eI m.ae,eI m.ak,eI m.step,eI m.same,eI m.least]
abbrev zR (va vk:Nat) (d:Dk):Mem:=vp 1900000006 1900000500 1900000501 va vk (Y5 d.m) (d.a.map aP) (d.k.map aP)
def Zk (r0:AV) (d:Dk) (r:AV) (cs ya yc:lA):Prop:=r=r0/\cs=Y5 d.m/\ya=d.a.map aP/\yc=d.k.map aP
theorem fL.dk {P:Program} {f:FuncId} {va vk:Nat} {d d':Dk} {xs:lA} {r0:AV} (h:fL P f (zR va vk d) xs (λr m'=>∃cs ya yc,aq cs=[]/\m'=vp 1900000006 1900000500 1900000501 (va+1) (vk+1) cs ya yc/\Zk r0 d' r cs ya yc)):
 fL P f (zR va vk d) xs (λr m'=>r=r0/\m'=zR (va+1) (vk+1) d'):=
 h.mono λr m' ⟨cs,ya,yc,_,h2,h3,h4,h5,h6⟩=>⟨h3,by rw [h2,h4,h5,h6]⟩
theorem Qu {t:lL} (h:iL t=true):∀x∈t,0<x.length:=λx hx=>by have h1:=ui h x hx;simp only [gm,uq0,beq_iff_eq,decide_eq_true_eq] at h1;omega
theorem Wf.S6 {d:Dk} (h:Wf d):∀x∈d.a,0<x.length/\x.length<=1048576:=λx hx=>by
 have:=h.ar x hx;rcases h.tb with e|e
 . rw [e] at hx;cases hx
 exact ⟨Qu e x hx,by omega⟩
theorem Wf.VG {d:Dk} (h:Wf d):∀x∈d.k,0<x.length/\x.length<=1048576:=λx hx=>by have:=(gv (h.kr x hx)).1;have:=h.num;omega
theorem Qv (d:Dk) (hk:k_ d=true) (x y:lU) (hx:x.length<=1000000) (hy:y.length<=1000000) (va vk:Nat):fL pG 113 (zR va vk d) [.ptr 1900000006 0 0 0,eS x,eS y] (λr m'=>r=eI (v_ d x y).2/\m'=zR (va+1) (vk+1) (v_ d x y).1):=by
 refine fL.dk (fL.tL 76 [.tmp 6] func113 rfl rfl rfl rfl rfl (oT rfl) (by decide) ?_);obtain ⟨hF,ha1,ha2,hk1,hk2⟩:=dkA hk;have hr:=yY d.m x (by omega);have hal:=hF.al;have hkl:=hF.kl;unfold v_;rw [gV];by_cases hc:(j_ d.m x).2=0
 . have e0:((0:Int) != 0)=false:=rfl;rw [if_pos hc];rw [hc] at hr;have hKf:fault d.m (j_ d.m x).1=0:=by
    unfold j_ at hc ⊢;split at hc
    . rename_i h1;rw [if_pos h1];split at hc
      . rename_i h2;rw [if_pos h2];exact h2
      exact absurd hc (by decide)
    exact absurd hc (by decide)
   have hK1:=(gv (m:=d.m) (c:=(j_ d.m x).1) (beq_iff_eq.2 hKf)).1;have hK0:0<(j_ d.m x).1.length:=(by have:=hF.num;omega);generalize (j_ d.m x).1=K at*;have tK0:(K.map eI).take K.length=K.map eI:=b6 (by simp);simp -dsimp -implicitDefEqProofs only [go_sem,uq6];refine aa hr ?_;simp -dsimp -implicitDefEqProofs only [go_sem,e0];refine aj.up [0,2,7,26] [46,47] [24] y.length (λi=>(y.take i).all dO=true) (λi=>[(9,.ref 24 0 0 i),(27,eI i)]) (λi=>[(24,.row 0 ⟨1,false⟩ true ((bq (y.take i)).map eI))]) rfl ?_ rfl (λi hi hI=> ?_) (λhI=> ?_)
   . simp -dsimp -implicitDefEqProofs only [go_sem];all_goals first|rfl|skip
   . have hg:(y.getD i 0)=y[i]:=(by rw [List.getD_eq_getElem?_getD,List.getElem?_eq_getElem hi];rfl);have hb:=(y[i]).toNat_lt;have cO:=dy dO y i hi;have hno:=λh=>gP (p:=dO) hi h;have hdd:=IH y[i];have htk:bq (y.take (i+1))=bq (y.take i)++[(y[i].toNat:Int)-48]:=by
      rw [List.take_succ_eq_append_getElem hi,bq,List.map_append];rfl
     have hln:(bq (y.take i)).length=i:=(by rw [da,List.length_take];omega);rw [htk,List.map_append,List.map_singleton];clear htk;generalize bq (y.take i)=K2 at*;have tK:List.take i (K2.map eI)=K2.map eI:=b6 (by simp [hln]);generalize y[i]=b at*;rcases d1:decide ((b.toNat:Int)<48) with _|_
     . rcases d2:decide ((b.toNat:Int)>57) with _|_
       . have e1:=of_decide_eq_false d1;simp -dsimp -implicitDefEqProofs only [go_sem,aE hi,hg,d1,d2,tK];((with_reducible and_intros);all_goals try first|omega|(refine ⟨?_,?_⟩<;>omega)|exact rfl);all_goals first|(rw [cO,hI];show dO b=true;rw [dO,hdd,d1,d2];rfl)|skip
       have hz:=hno (by rw [dO,hdd,d1,d2];rfl);rw [hz,if_neg (by simp)];simp -dsimp -implicitDefEqProofs only [go_sem,aE hi,hg,d1,d2];((with_reducible and_intros);all_goals try omega);((refine pq (oa:=some 1900000500) (oc:=some 1900000501) rfl ?_ (dZ.mk ?_ rfl) (dZ.mk ?_ rfl) ?_ ?_ ?_ ⟨rfl,rfl,?_,?_⟩);all_goals first|exact rfl|(simp;done)|skip)
     have hz:=hno (by rw [dO,hdd,d1];rfl);rw [hz,if_neg (by simp)];simp -dsimp -implicitDefEqProofs only [go_sem,aE hi,hg,d1];((with_reducible and_intros);all_goals try omega);((refine pq (oa:=some 1900000500) (oc:=some 1900000501) rfl ?_ (dZ.mk ?_ rfl) (dZ.mk ?_ rfl) ?_ ?_ ?_ ⟨rfl,rfl,?_,?_⟩);all_goals first|exact rfl|(simp;done)|skip)
   rw [List.take_length] at hI ⊢;rw [hI,if_pos rfl];have hln:=da y;generalize bq y=R at*;have tR:List.take y.length (R.map eI)=R.map eI:=b6 (by simp [hln])
   have hd:=Mf d.m (d.a++[R]) (d.k++[K]) (by simp;omega) (λz hz=>by
    rcases List.mem_append.1 hz with hz|hz
    . exact ha2 z hz
    . rw [dR] at hz;subst hz;omega) (by simp;omega) (λz hz=>by
    rcases List.mem_append.1 hz with hz|hz
    . exact hk2 z hz
    rw [dR] at hz;subst hz;have:=hF.num;omega)
   simp only [WX,aQ,List.map_append,uq9,bj] at hd;have t3:(d.a.map aP++[aP R]).take (d.a.length+1)=d.a.map aP++[aP R]:=b6 (by simp);have t4:(d.k.map aP++[aP K]).take (d.k.length+1)=d.k.map aP++[aP K]:=b6 (by simp);have t1:(d.a.map aP).take d.a.length=d.a.map aP:=b6 (by simp);have t2:(d.k.map aP).take d.k.length=d.k.map aP:=b6 (by simp);rcases hdk:gR d.m (d.a++[R]) (d.k++[K]) with _|_
   . rw [hdk] at hd;rw [if_neg (by simp)];have hl1:=fD d.a (by omega) hF.S6;have hl2:=fD d.k (by omega) hF.VG;simp -dsimp -implicitDefEqProofs only [go_sem,ay];refine aj.draw mixed rfl ?_;simp -dsimp -implicitDefEqProofs only [go_sem,t1];refine vq hl1 (by decide) ?_ (by decide) ?_
     . simp -dsimp -implicitDefEqProofs only [go_sem,t1]
     simp -dsimp -implicitDefEqProofs only [go_sem,t1,tR,uq6];refine ⟨by omega,.inr ⟨by omega,?_⟩⟩;refine vq hl2 (by decide) ?_ (by decide) ?_
     . simp -dsimp -implicitDefEqProofs only [go_sem,t2]
     simp -dsimp -implicitDefEqProofs only [go_sem,t2,tK0,uq6];refine .inr ⟨by omega,?_⟩;simp -dsimp -implicitDefEqProofs only [go_sem,t3,t4];((with_reducible and_intros);all_goals try exact rfl);refine aa hd ?_;simp -dsimp -implicitDefEqProofs only [go_sem];((refine pq (oa:=some 1900000500) (oc:=some 1900000501) rfl ?_ (dZ.mk ?_ rfl) (dZ.mk ?_ rfl) ?_ ?_ ?_ ⟨rfl,rfl,?_,?_⟩);all_goals first|exact rfl|(simp;done)|skip)
   rw [hdk] at hd;rw [if_pos rfl];have hl1:=fD d.a (by omega) hF.S6;have hl2:=fD d.k (by omega) hF.VG;have eS1:∀u,(d.a.map aP++[AV.val u]).set d.a.length (.arr ⟨1,false⟩ (R.map eI))=d.a.map aP++[aP R]:=λu=>by rw [List.set_append_right _ _ (by simp)];simp
   have eS2:∀u,(d.k.map aP++[AV.val u]).set d.k.length (.arr ⟨1,false⟩ (K.map eI))=d.k.map aP++[aP K]:=λu=>by rw [List.set_append_right _ _ (by simp)];simp
   have hy0:0<y.length:=by have hF2:=XO (d:=⟨d.m,d.a++[R],d.k++[K]⟩) hdk;have:=(hF2.S6 R (by simp)).1;omega
   simp -dsimp -implicitDefEqProofs only [go_sem,ay];refine aj.known 9 24 0 y.length ⟨1,false⟩ _ rfl (by decide) rfl (by simp [hln]) hy0 (by decide) λu1=> ?_;refine aj.known 7 19000 0 K.length ⟨1,false⟩ _ rfl (by decide) rfl (by simp) hK0 (by decide) λu2=> ?_;refine aj.Va ?_;refine aj.draw mixed rfl ?_;simp -dsimp -implicitDefEqProofs only [go_sem,t1];refine an hl1 ?_;simp -dsimp -implicitDefEqProofs only [go_sem,t1,uq6];((with_reducible and_intros);all_goals try omega);refine an hl2 ?_;simp -dsimp -implicitDefEqProofs only [go_sem,t2,uq6];((with_reducible and_intros);all_goals try first|omega|exact rfl);refine Go.Vc.hk.back 58000 1 d.a.length 24 0 _ _ _ u1 (by decide) rfl (by simp) rfl ?_;refine Go.Vc.hk.back 66000 1 d.k.length 19000 0 _ _ _ u2 (by decide) rfl (by simp) rfl ?_;rw [eS1 u1,eS2 u2];refine Go.Vc.hk.go ?_;simp -dsimp -implicitDefEqProofs only [go_sem,t3,t4];refine aa hd ?_;simp -dsimp -implicitDefEqProofs only [go_sem];((refine pq (oa:=some 58000) (oc:=some 66000) rfl ?_ (dZ.mk ?_ rfl) (dZ.mk ?_ rfl) ?_ ?_ ?_ ⟨rfl,rfl,?_,?_⟩);all_goals first|exact rfl|(simp;done)|skip)
 rw [if_neg hc];have e0:((j_ d.m x).2 != 0)=true:=bne_iff_ne.2 hc;generalize j_ d.m x=K at*;simp -dsimp -implicitDefEqProofs only [go_sem,uq6];refine aa hr ?_;simp -dsimp -implicitDefEqProofs only [go_sem,e0];((refine pq (oa:=some 1900000500) (oc:=some 1900000501) rfl ?_ (dZ.mk ?_ rfl) (dZ.mk ?_ rfl) ?_ ?_ ?_ ⟨rfl,rfl,?_,?_⟩);all_goals first|exact rfl|(simp;done)|skip)
theorem Cq {d:Dk} (hk:k_ d=true):(mT d.m d.a d.k).length<=1000:=by
 unfold mT;split
 . rename_i hc;obtain ⟨h1,h2⟩:=ir hc;have:=iW h1;have:=(dJ h2).1;have h:=kA d.m d.a d.k d.k.length;have h3:d.k.length*(d.a.getD 0 []).length<=10*12:=Nat.mul_le_mul (by omega) (by omega);unfold gS;omega
 simp
theorem Kc {m:aL} {t ab:lL} (hd:bg m t ab=true):0<=oq m t ab/\oq m t ab<=1000000:=by
 obtain ⟨h1,h2⟩:=tS hd;have hn:=iW h1;have key:∀l∈az m t ab (t.getD 0 []).length,0<=fR l/\fR l<=7000:=by
  intro l hl;have hw:=ue (i_ hd) _ l hl;obtain ⟨k,hk,rfl⟩:=l4 hl;have hlk:=zh h1 h2 hk;simp only [fu,uq0,List.all_eq_true] at hlk;have hs:∀x∈bO m t ab k,1<=x.length:=λx hx=>by have:=hlk.2 x hx;simp only [cJ,uq0,decide_eq_true_eq] at this;omega
  refine ⟨?_,hw.2.2.2⟩;have:∀l:lL,(∀x∈l,1<=x.length)->0<=fR l:=by
   intro l;induction l with
   |nil=>intro _;simp [fR]
   |cons x r ih=>
    intro h;have e:fR (x::r)=((x.length:Int)-1)+fR r:=(by simp [fR]);have:=ih λy hy=>h y (List.mem_cons_of_mem _ hy);have:=h x (List.mem_cons_self ..);rw [e];omega
  exact this _ hs
 have sum:∀ls:List lL,(∀l∈ls,0<=fR l/\fR l<=7000)->0<=j5 ls/\j5 ls<=7000*ls.length:=by
  intro ls;induction ls with
  |nil=>intro _;simp [j5]
  |cons x r ih=>
   intro h;have e:j5 (x::r)=fR x+j5 r:=(by simp [j5]);have:=ih λy hy=>h y (List.mem_cons_of_mem _ hy);have:=h x (List.mem_cons_self ..);rw [e,uq5];omega
 have:=sum _ key;rw [dM] at this;unfold oq;omega
theorem GF {m:aL} {t ab:lL} {g:lI} (h:g∈ze m t ab):bg m t ab=true/\aW m=true/\fault m g=0:=by
 unfold ze at h;split at h
 . rename_i hd;have hF:=i_ hd;have:=hF.num;exact ⟨hd,hF.pg,qy.fault (kj (by omega) (J9 _ _ _ _ g h))⟩
 cases h
theorem Cr (us:lV) (h:us.length=7) (h1:∀u,u∈us->u.oneCell'=true):Fn pG 117 [.bo ⟨7,true⟩ [.agg (us.map .val)] 0 0] false (· = .agg ((us.map .val).take 6)):=by
 match us,h with
 | [u0,u1,u2,u3,u4,u5,u6],_=>
   simp only [uq9,bj,bI,bd];refine Fn.bY 12 [.cell 2 110] func117 (hv:= ?_);simp -dsimp -implicitDefEqProofs only [go_sem];refine aj.draw mixed rfl ?_;simp -dsimp -implicitDefEqProofs only [go_sem];all_goals (first|exact rfl|skip)
theorem kC (d:Dk):Fn pG 117 [.bo ⟨7,true⟩ [mV d] 0 0] false (· =jQ d.m d.a):=by refine Fn.bY 12 [.cell 2 110] func117 (hv:= ?_);simp -dsimp -implicitDefEqProofs only [go_sem];refine aj.draw mixed rfl ?_;simp -dsimp -implicitDefEqProofs only [go_sem];all_goals (first|exact rfl|skip)
theorem I3 (d:Dk) (hk:k_ d=true):Fn pG 126 [.bo ⟨7,true⟩ [mV d] 0 0,eS iZ] true (· = .aX [eS (b8 [] d .Ni).1,eI (b8 [] d .Ni).2]):=by
 obtain ⟨hF,ha1,ha2,hk1,hk2⟩:=dkA hk;have hs:=kC d;have hq:=uc d.m d.a d.k ha1 ha2 hk1 hk2;have hn:=Cq hk;have ht:=k6 (n:=((mT d.m d.a d.k).length:Int)) (by unfold jx;omega);have w1:decide (iZ=[102,97,108,115,101])=true:=by decide
 simp only [b8];generalize mT d.m d.a d.k=L at*;generalize bT d.m d.a d.k=c at*;refine Fn.av 63 [.tmp 4,.tmp 5] func126 (hv:= ?_);simp -dsimp -implicitDefEqProofs only [go_sem,w1];refine aj.draw mixed rfl ?_;simp -dsimp -implicitDefEqProofs only [go_sem];refine aH hs (by simp [ax,ao,aF]) ?_;simp -dsimp -implicitDefEqProofs only [go_sem];refine aH hq (by simp [ax,ao,aq,aF]) ?_;simp -dsimp -implicitDefEqProofs only [go_sem];((with_reducible and_intros);all_goals try exact rfl);refine aa ht ?_;simp -dsimp -implicitDefEqProofs only [go_sem]
theorem zS (d:Dk) (hk:k_ d=true):Fn pG 126 [.bo ⟨7,true⟩ [mV d] 0 0,eS e_] true (· = .aX [eS (b8 [] d .cj).1,eI (b8 [] d .cj).2]):=by
 obtain ⟨hF,ha1,ha2,hk1,hk2⟩:=dkA hk;have hs:=kC d;have hq:=zd d.m d.a d.k ha1 ha2 hk1 hk2;have hn:=ry hF.pg d.a d.k;have hb:0<=(if bg d.m d.a d.k=true then ((cj d.m d.a d.k).length:Int) else 0)/\(if bg d.m d.a d.k=true then ((cj d.m d.a d.k).length:Int) else 0)<=262144:=by split<;>omega
 have ht:=k6 (n:=if bg d.m d.a d.k=true then ((cj d.m d.a d.k).length:Int) else 0) (by unfold jx;omega);have w1:decide (e_=[102,97,108,115,101])=false:=by decide
 have w2:decide (e_=[103,104,111,115,116,115])=true:=by decide
 simp only [b8];generalize (if bg d.m d.a d.k=true then ((cj d.m d.a d.k).length:Int) else 0)=L at*;generalize (if bg d.m d.a d.k=true then (0:Int) else 1)=c at*;refine Fn.av 63 [.tmp 4,.tmp 5] func126 (hv:= ?_);simp -dsimp -implicitDefEqProofs only [go_sem,w1,w2];refine aj.draw mixed rfl ?_;simp -dsimp -implicitDefEqProofs only [go_sem];refine aH hs (by simp [ax,ao,aF]) ?_;simp -dsimp -implicitDefEqProofs only [go_sem];refine an hq ?_;simp -dsimp -implicitDefEqProofs only [go_sem];((with_reducible and_intros);all_goals try exact rfl);refine aa ht ?_;simp -dsimp -implicitDefEqProofs only [go_sem]
theorem Dt (d:Dk) (hk:k_ d=true):Fn pG 126 [.bo ⟨7,true⟩ [mV d] 0 0,eS fQ] true (· = .aX [eS (b8 [] d .count).1,eI (b8 [] d .count).2]):=by
 obtain ⟨hF,ha1,ha2,hk1,hk2⟩:=dkA hk;have hq:=F' d.m;have hn:=rq hF.pg;have hb:0<=(if aW d.m=true then iM d.m else 0)/\(if aW d.m=true then iM d.m else 0)<=262144:=by split<;>omega
 have ht:=k6 (n:=if aW d.m=true then iM d.m else 0) (by unfold jx;omega);have w1:decide (fQ=[102,97,108,115,101])=false:=by decide
 have w2:decide (fQ=[103,104,111,115,116,115])=false:=by decide
 have w3:decide (fQ=[99,111,117,110,116])=true:=by decide
 simp only [b8];generalize (if aW d.m=true then iM d.m else 0)=L at*;generalize (if aW d.m=true then (0:Int) else 1)=c at*;refine Fn.av 63 [.tmp 4,.tmp 5] func126 (hv:= ?_);simp -dsimp -implicitDefEqProofs only [go_sem,w1,w2,w3];refine aa hq ?_;simp -dsimp -implicitDefEqProofs only [go_sem];refine aa ht ?_;simp -dsimp -implicitDefEqProofs only [go_sem]
theorem zT (d:Dk) (hk:k_ d=true):Fn pG 126 [.bo ⟨7,true⟩ [mV d] 0 0,eS dm] true (· = .aX [eS (b8 [] d .j7).1,eI (b8 [] d .j7).2]):=by
 obtain ⟨hF,ha1,ha2,hk1,hk2⟩:=dkA hk;have hs:=kC d;have hq:=v7 d.m d.a d.k ha1 ha2 hk1 hk2;have hb:0<=(if bg d.m d.a d.k=true then oq d.m d.a d.k else 0)/\(if bg d.m d.a d.k=true then oq d.m d.a d.k else 0)<=1000000:=by
  split
  . rename_i h;exact Kc h
  omega
 have ht:=k6 (n:=if bg d.m d.a d.k=true then oq d.m d.a d.k else 0) (by unfold jx;omega);have w1:decide (dm=[102,97,108,115,101])=false:=by decide
 have w2:decide (dm=[103,104,111,115,116,115])=false:=by decide
 have w3:decide (dm=[99,111,117,110,116])=false:=by decide
 have w4:decide (dm=[119,97,102,101,114,115])=true:=by decide
 simp only [b8];generalize (if bg d.m d.a d.k=true then oq d.m d.a d.k else 0)=L at*;generalize (if bg d.m d.a d.k=true then (0:Int) else 1)=c at*;refine Fn.av 63 [.tmp 4,.tmp 5] func126 (hv:= ?_);simp -dsimp -implicitDefEqProofs only [go_sem,w1,w2,w3,w4];refine aj.draw mixed rfl ?_;simp -dsimp -implicitDefEqProofs only [go_sem];refine aH hs (by simp [ax,ao,aF]) ?_;simp -dsimp -implicitDefEqProofs only [go_sem];refine an hq ?_;simp -dsimp -implicitDefEqProofs only [go_sem];((with_reducible and_intros);all_goals try exact rfl);refine aa ht ?_;simp -dsimp -implicitDefEqProofs only [go_sem]
theorem wv (d:Dk) (w:lU) (c:Dr) (hw:w≠je/\w≠dv/\w≠eu/\w≠dX) (hq:Fn pG 126 [.bo ⟨7,true⟩ [mV d] 0 0,eS w] true (· = .aX [eS (b8 [] d c).1,eI (b8 [] d c).2])):
 Fn pG 85 [.bo ⟨7,true⟩ [mV d] 0 0,lP [w],aP []] true (· = .aX [eS (b8 [] d c).1,eI (b8 [] d c).2]):=by
 have w1:decide (w=[108,111,99,107])=false:=dF hw.1;have w2:decide (w=[111,112,101,110,115])=false:=dF hw.2.1;have w3:decide (w=[119,111,114,115,116])=false:=dF hw.2.2.1;have w4:decide (w=[115,116,97,109,112])=false:=dF hw.2.2.2;generalize b8 [] d c=q at*;refine Fn.av 153 [.tmp 6,.tmp 7] func85 (hv:= ?_);simp -dsimp -implicitDefEqProofs only [go_sem,w1,w2,w3,w4,uq9,bj];((with_reducible and_intros);all_goals try omega);refine aa hq ?_;simp -dsimp -implicitDefEqProofs only [go_sem]
theorem I4 (d:Dk) (hk:k_ d=true) (x:lU) (n:Nat) (hn:n<=9999999999999):Fn pG 85 [.bo ⟨7,true⟩ [mV d] 0 0,lP [je,x],aP [n]] true (· = .aX [eS (b8 [] d (.lock n)).1,eI (b8 [] d (.lock n)).2]):=by
 obtain ⟨hF,ha1,ha2,hk1,hk2⟩:=dkA hk;have hs:=kC d;have hq:=IQ d.m d.a d.k ha1 ha2 hk1 hk2;have w1:decide (je=[108,111,99,107])=true:=by decide
 simp only [b8];by_cases hc:bT d.m d.a d.k=0
 . obtain ⟨h1,h2⟩:=ir hc;rw [if_pos hc] at hq ⊢;rw [hc] at hq;have e0:((0:Int) != 0)=false:=rfl;have hll:=dM d.m d.a d.k (d.a.getD 0 []).length;by_cases hl:n<(d.a.getD 0 []).length
   . rw [if_pos hl];have hg:=jS d.m d.a d.k hl;have h8:∀x∈bO d.m d.a d.k n,x.length<=8:=λx hx=>by
      have:=iG d.m d.a d.k n x hx;have:=hF.num;omega
     have hp:=Gu d.m (bO d.m d.a d.k n) hF.pg (zh h1 h2 hl) h8;have dl:decide ((n:Int)≥((d.a.getD 0 []).length:Int))=false:=dF (by omega);generalize qa (pins d.m (bO d.m d.a d.k n))=T at*;have hlx:n<(az d.m d.a d.k (d.a.getD 0 []).length).length:=(by omega);generalize bO d.m d.a d.k n=lk at*;generalize az d.m d.a d.k (d.a.getD 0 []).length=LL at*;generalize (d.a.getD 0 []).length=D at*;subst hll;refine Fn.av 153 [.tmp 6,.tmp 7] func85 (hv:= ?_);simp -dsimp -implicitDefEqProofs only [go_sem,w1,uq9,bj];((with_reducible and_intros);all_goals try omega);refine aj.draw mixed rfl ?_;simp -dsimp -implicitDefEqProofs only [go_sem];refine aH hs (by simp [ax,ao,aF]) ?_;simp -dsimp -implicitDefEqProofs only [go_sem];refine aH hq (by simp [ax,ao,aq,aF]) ?_;simp -dsimp -implicitDefEqProofs only [go_sem,e0,uq9,bj];((with_reducible and_intros);all_goals try first|omega|exact rfl);all_goals try simp -dsimp -implicitDefEqProofs only [go_sem,dl]
     refine aj.draw mixed rfl ?_;simp -dsimp -implicitDefEqProofs only [go_sem,hg,uq9,bj];((with_reducible and_intros);all_goals try omega);refine an hp ?_;simp -dsimp -implicitDefEqProofs only [go_sem];all_goals (first|exact rfl|skip)
   rw [if_neg hl];have dl:decide ((n:Int)≥((d.a.getD 0 []).length:Int))=true:=dT (by omega);generalize az d.m d.a d.k (d.a.getD 0 []).length=LL at*;generalize (d.a.getD 0 []).length=D at*;subst hll;refine Fn.av 153 [.tmp 6,.tmp 7] func85 (hv:= ?_);simp -dsimp -implicitDefEqProofs only [go_sem,w1,uq9,bj];((with_reducible and_intros);all_goals try omega);refine aj.draw mixed rfl ?_;simp -dsimp -implicitDefEqProofs only [go_sem];refine aH hs (by simp [ax,ao,aF]) ?_;simp -dsimp -implicitDefEqProofs only [go_sem];refine aH hq (by simp [ax,ao,aq,aF]) ?_;simp -dsimp -implicitDefEqProofs only [go_sem,e0,uq9,bj];((with_reducible and_intros);all_goals try first|omega|exact rfl);all_goals try simp -dsimp -implicitDefEqProofs only [go_sem,dl]
 rw [if_neg hc] at hq ⊢;have e0:(bT d.m d.a d.k != 0)=true:=bne_iff_ne.2 hc;generalize bT d.m d.a d.k=c at*;refine Fn.av 153 [.tmp 6,.tmp 7] func85 (hv:= ?_);simp -dsimp -implicitDefEqProofs only [go_sem,w1,uq9,bj];((with_reducible and_intros);all_goals try omega);refine aj.draw mixed rfl ?_;simp -dsimp -implicitDefEqProofs only [go_sem];refine aH hs (by simp [ax,ao,aF]) ?_;simp -dsimp -implicitDefEqProofs only [go_sem];refine aH hq (by simp [ax,ao,aq,aF]) ?_;simp -dsimp -implicitDefEqProofs only [go_sem,e0];all_goals (first|exact rfl|skip)
theorem GG (d:Dk) (hk:k_ d=true) (x:lU) (hx:x.length<=1048576):Fn pG 85 [.bo ⟨7,true⟩ [mV d] 0 0,lP [dv,x],aP []] true (· = .aX [eS (b8 [] d (.opens x)).1,eI (b8 [] d (.opens x)).2]):=by
 obtain ⟨hF,ha1,ha2,hk1,hk2⟩:=dkA hk;have hs:=kC d;have hr:=Fn.shared (yY d.m x hx);have w1:decide (dv=[108,111,99,107])=false:=by decide
 have w2:decide (dv=[111,112,101,110,115])=true:=by decide
 simp only [b8];by_cases hc:(j_ d.m x).2=0
 . have hkl:(j_ d.m x).1.length<=1048576:=by
    unfold j_;split
    . split
      . rw [da];exact hx
      simp
    simp
   have hq:=Fn.shared (y7 d.m d.a d.k ha1 ha2 hk1 hk2 (j_ d.m x).1 hkl);have hin:=Qa (m:=d.m) (t:=d.a) (ab:=d.k) (c:=(j_ d.m x).1);rw [if_pos hc];rw [hc] at hr;have e0:((0:Int) != 0)=false:=rfl;generalize (j_ d.m x).1=K at*;generalize Cb d.m d.a d.k K=D at*;obtain ⟨D1,D2⟩:=D;simp only at hq hin ⊢;by_cases h2:D2=0
   . rw [if_pos h2];subst h2;have hl:=IJ D1 (by omega) hin.2;refine Fn.av 153 [.tmp 6,.tmp 7] func85 (hv:= ?_);simp -dsimp -implicitDefEqProofs only [go_sem,w1,w2,uq9,bj];((with_reducible and_intros);all_goals try omega);refine aj.draw mixed rfl ?_;simp -dsimp -implicitDefEqProofs only [go_sem];((with_reducible and_intros);all_goals try omega);refine aH hr (by simp [ax,ao,aq,aF]) ?_;simp -dsimp -implicitDefEqProofs only [go_sem,e0];((with_reducible and_intros);all_goals try exact rfl);refine aj.draw mixed rfl ?_;simp -dsimp -implicitDefEqProofs only [go_sem];refine aH hs (by simp [ax,ao,aF]) ?_;simp -dsimp -implicitDefEqProofs only [go_sem];refine aH hq (by simp [ax,ao,aq,aF]) ?_;simp -dsimp -implicitDefEqProofs only [go_sem,e0];((with_reducible and_intros);all_goals try exact rfl);refine aa hl ?_;simp -dsimp -implicitDefEqProofs only [go_sem]
   rw [if_neg h2];have e1:(D2 != 0)=true:=bne_iff_ne.2 h2;refine Fn.av 153 [.tmp 6,.tmp 7] func85 (hv:= ?_);simp -dsimp -implicitDefEqProofs only [go_sem,w1,w2,uq9,bj];((with_reducible and_intros);all_goals try omega);refine aj.draw mixed rfl ?_;simp -dsimp -implicitDefEqProofs only [go_sem];((with_reducible and_intros);all_goals try omega);refine aH hr (by simp [ax,ao,aq,aF]) ?_;simp -dsimp -implicitDefEqProofs only [go_sem,e0];((with_reducible and_intros);all_goals try exact rfl);refine aj.draw mixed rfl ?_;simp -dsimp -implicitDefEqProofs only [go_sem];refine aH hs (by simp [ax,ao,aF]) ?_;simp -dsimp -implicitDefEqProofs only [go_sem];refine aH hq (by simp [ax,ao,aq,aF]) ?_;simp -dsimp -implicitDefEqProofs only [go_sem,e1];all_goals (first|exact rfl|skip)
 rw [if_neg hc];have e0:((j_ d.m x).2 != 0)=true:=bne_iff_ne.2 hc;generalize j_ d.m x=K at*;refine Fn.av 153 [.tmp 6,.tmp 7] func85 (hv:= ?_);simp -dsimp -implicitDefEqProofs only [go_sem,w1,w2,uq9,bj];((with_reducible and_intros);all_goals try omega);refine aj.draw mixed rfl ?_;simp -dsimp -implicitDefEqProofs only [go_sem];((with_reducible and_intros);all_goals try omega);refine aH hr (by simp [ax,ao,aq,aF]) ?_;simp -dsimp -implicitDefEqProofs only [go_sem,e0];all_goals try exact rfl
theorem GH (d:Dk) (hk:k_ d=true):Fn pG 85 [.bo ⟨7,true⟩ [mV d] 0 0,lP [eu],aP []] true (· = .aX [eS (b8 [] d .pj).1,eI (b8 [] d .pj).2]):=by
 obtain ⟨hF,ha1,ha2,hk1,hk2⟩:=dkA hk;have hs:=kC d;have hq:Fn pG 123 [jQ d.m d.a,aQ d.k,eI 1] false (· = .aX [aQ (ze d.m d.a d.k),eI (if bg d.m d.a d.k=true then 0 else 1)]):=Fn.y5 (Fn.mono (Qg d.m d.a d.k ha1 ha2 hk1 hk2) λx hx=>⟨_,hx,rfl⟩);have hw:=λg=>GF (m:=d.m) (t:=d.a) (ab:=d.k) (g:=g);have hkt:=λg hg=>Mz d.m g hg;have w1:decide (eu=[108,111,99,107])=false:=by decide
 have w2:decide (eu=[111,112,101,110,115])=false:=by decide
 have w3:decide (eu=[119,111,114,115,116])=true:=by decide
 simp only [b8];generalize ze d.m d.a d.k=L at*;rcases L with _|⟨g,L⟩
 . have e1:(((([]:lL).length:Nat):Int)==0)=true:=rfl;rcases hdz:((if bg d.m d.a d.k=true then (0:Int) else 1) != 0) with _|_
   . generalize (if bg d.m d.a d.k=true then (0:Int) else 1)=c at*;refine Fn.av 153 [.tmp 6,.tmp 7] func85 (hv:= ?_);simp -dsimp -implicitDefEqProofs only [go_sem,w1,w2,w3,uq9,bj];((with_reducible and_intros);all_goals try omega);refine aj.draw mixed rfl ?_;simp -dsimp -implicitDefEqProofs only [go_sem];refine aH hs (by simp [ax,ao,aF]) ?_;simp -dsimp -implicitDefEqProofs only [go_sem];refine aH hq (by simp [ax,ao,aq,aF]) ?_;simp -dsimp -implicitDefEqProofs only [go_sem,hdz,bj,uq7];all_goals try exact rfl
   generalize (if bg d.m d.a d.k=true then (0:Int) else 1)=c at*;refine Fn.av 153 [.tmp 6,.tmp 7] func85 (hv:= ?_);simp -dsimp -implicitDefEqProofs only [go_sem,w1,w2,w3,uq9,bj];((with_reducible and_intros);all_goals try omega);refine aj.draw mixed rfl ?_;simp -dsimp -implicitDefEqProofs only [go_sem];refine aH hs (by simp [ax,ao,aF]) ?_;simp -dsimp -implicitDefEqProofs only [go_sem];refine aH hq (by simp [ax,ao,aq,aF]) ?_;simp -dsimp -implicitDefEqProofs only [go_sem,hdz,bj];all_goals try exact rfl
 obtain ⟨g1,g2,g3⟩:=hw g (by simp);have gl:g.length<=1048576:=by have:=(gv (m:=d.m) (c:=g) (beq_iff_eq.2 g3)).1;have:=hF.num;omega
 have hkg:=hkt g gl;have ek:W7 d.m g=(k7 g,0):=by rw [W7,if_pos g2,if_pos g3]
 rw [ek] at hkg;rw [if_pos g1] at hq ⊢;have e0:((0:Int) != 0)=false:=rfl;have e1:((((L.length+1:Nat):Nat):Int)==0)=false:=by rw [beq_eq_false_iff_ne];omega
 clear hw hkt;refine Fn.av 153 [.tmp 6,.tmp 7] func85 (hv:= ?_);simp -dsimp -implicitDefEqProofs only [go_sem,w1,w2,w3,uq9,bj];((with_reducible and_intros);all_goals try omega);refine aj.draw mixed rfl ?_;simp -dsimp -implicitDefEqProofs only [go_sem];refine aH hs (by simp [ax,ao,aF]) ?_;simp -dsimp -implicitDefEqProofs only [go_sem];refine aH hq (by simp [ax,ao,aq,aF]) ?_;simp -dsimp -implicitDefEqProofs only [go_sem,e0,e1,uq9,uq5];((with_reducible and_intros);all_goals try exact rfl);refine aj.draw mixed rfl ?_;simp -dsimp -implicitDefEqProofs only [go_sem,uq9,uq5];((with_reducible and_intros);all_goals try omega);refine an hkg ?_;simp -dsimp -implicitDefEqProofs only [go_sem];all_goals (first|exact rfl|skip)
theorem GI (d:Dk) (hk:k_ d=true) (x y:lU) (n s:Nat) (hn:n<=9999999999999/\s<=9999999999999):Fn pG 85 [.bo ⟨7,true⟩ [mV d] 0 0,lP [dX,x,y],aP [n,s]] true (· = .aX [eS (b8 [] d (.pn n s)).1,eI (b8 [] d (.pn n s)).2]):=by
 obtain ⟨hF,ha1,ha2,hk1,hk2⟩:=dkA hk;have w1:decide (dX=[108,111,99,107])=false:=by decide
 have w2:decide (dX=[111,112,101,110,115])=false:=by decide
 have w3:decide (dX=[119,111,114,115,116])=false:=by decide
 have w4:decide (dX=[115,116,97,109,112])=true:=by decide
 simp only [b8];by_cases hl:n<d.k.length
 . rw [if_pos hl];have gn:=get_some hl;have ek:d.k.getD n []=d.k[n]:=(by rw [List.getD_eq_getElem?_getD,gn];rfl);rw [ek];have hq:=IN d.m d.k[n] 0 (s:Int) (hk2 _ (uq4 hl));have dl:decide ((n:Int)≥(d.k.length:Int))=false:=dF (by omega);generalize j4 d.m d.k[n] 0 (s:Int)=T at*;generalize d.k[n]=K at*;refine Fn.av 153 [.tmp 6,.tmp 7] func85 (hv:= ?_);simp -dsimp -implicitDefEqProofs only [go_sem,w1,w2,w3,w4,uq9,bj];((with_reducible and_intros);all_goals try omega);refine aj.draw mixed rfl ?_;simp -dsimp -implicitDefEqProofs only [go_sem];((with_reducible and_intros);all_goals try first|omega|exact rfl);all_goals try simp -dsimp -implicitDefEqProofs only [go_sem,dl]
   refine aj.draw mixed rfl ?_;simp -dsimp -implicitDefEqProofs only [go_sem,gn];((with_reducible and_intros);all_goals try omega);refine an hq ?_;simp -dsimp -implicitDefEqProofs only [go_sem];all_goals (first|exact rfl|skip)
 rw [if_neg hl];have dl:decide ((n:Int)≥(d.k.length:Int))=true:=dT (by omega);refine Fn.av 153 [.tmp 6,.tmp 7] func85 (hv:= ?_);simp -dsimp -implicitDefEqProofs only [go_sem,w1,w2,w3,w4,uq9,bj];((with_reducible and_intros);all_goals try omega);refine aj.draw mixed rfl ?_;simp -dsimp -implicitDefEqProofs only [go_sem];((with_reducible and_intros);all_goals try first|omega|exact rfl);all_goals try simp -dsimp -implicitDefEqProofs only [go_sem,dl]
theorem Cs {α β:Type} (f:α->β) (xs:List α) (n:Nat):(xs.map f).eraseIdx n=(xs.eraseIdx n).map f:=by
 apply List.ext_getElem?
 intro p;simp only [List.getElem?_eraseIdx,List.getElem?_map];split<;>rfl
theorem GJ (d:Dk) (hk:k_ d=true) (x1 x2 x3 x4 x5:lU) (n1 n2 n3 n4 n5:Nat) (va vk:Nat):fL pG 84 (zR va vk d) [.ptr 1900000006 0 0 0,lP [gU,x1,x2,x3,x4,x5],aP [n1,n2,n3,n4,n5]] (λr m'=>r=eI (dQ d (.la ⟨n1,n2,n3,n4,n5⟩)).2/\m'=zR (va+1) (vk+1) (dQ d (.la ⟨n1,n2,n3,n4,n5⟩)).1):=by
 refine fL.dk (fL.tL 109 [.tmp 6] func84 rfl rfl rfl rfl rfl (oT rfl) (by decide) ?_);have hm:=eU ⟨n1,n2,n3,n4,n5⟩;have w1:decide (gU=[109,97,107,101,114])=true:=by decide
 simp only [dQ];rw [gV];rcases lu:aW ⟨n1,n2,n3,n4,n5⟩ with _|_
 . rw [lu] at hm;rw [if_neg (by simp)];simp -dsimp -implicitDefEqProofs only [go_sem,w1,uq6,uq9,bj];((with_reducible and_intros);all_goals try omega);refine aj.draw mixed rfl ?_;simp -dsimp -implicitDefEqProofs only [go_sem];((with_reducible and_intros);all_goals try first|omega|exact rfl);refine aa hm ?_;simp -dsimp -implicitDefEqProofs only [go_sem];((refine pq (oa:=some 1900000500) (oc:=some 1900000501) rfl ?_ (dZ.mk ?_ rfl) (dZ.mk ?_ rfl) ?_ ?_ ?_ ⟨rfl,rfl,?_,?_⟩);all_goals first|exact rfl|(simp;done)|skip)
 rw [lu] at hm;rw [if_pos rfl];simp -dsimp -implicitDefEqProofs only [go_sem,w1,uq6,uq9,bj];((with_reducible and_intros);all_goals try omega);refine aj.draw mixed rfl ?_;simp -dsimp -implicitDefEqProofs only [go_sem];((with_reducible and_intros);all_goals try first|omega|exact rfl);refine aa hm ?_;simp -dsimp -implicitDefEqProofs only [go_sem];refine pq (oa:=none) (oc:=none) rfl ?_ .nil .nil ?_ ?_ ?_ ⟨rfl,rfl,?_,?_⟩;all_goals first|exact rfl|(simp;done)|skip
theorem M3 (d:Dk) (hk:k_ d=true) (x y:lU) (hx:x.length<=1000000) (hy:y.length<=1000000) (va vk:Nat):fL pG 84 (zR va vk d) [.ptr 1900000006 0 0 0,lP [k8,x,y],aP []] (λr m'=>r=eI (dQ d (.key x y)).2/\m'=zR (va+1) (vk+1) (dQ d (.key x y)).1):=by
 refine fL.dk (fL.tL 109 [.tmp 6] func84 rfl rfl rfl rfl rfl (oT rfl) (by decide) ?_);have hq:=Qv d hk x y hx hy va vk;have w1:decide (k8=[109,97,107,101,114])=false:=by decide
 have w2:decide (k8=[107,101,121])=true:=by decide
 simp only [dQ];generalize v_ d x y=q at*;rw [gV];simp -dsimp -implicitDefEqProofs only [go_sem,w1,w2,uq6,uq9,bj];((with_reducible and_intros);all_goals try omega);refine aj.lx 7 mixed rfl ?_;simp -dsimp -implicitDefEqProofs only [bI,bd,uq2,uq3];simp -dsimp -implicitDefEqProofs only [go_sem];((with_reducible and_intros);all_goals try first|omega|exact rfl);refine cX hq ⟨⟨?_,?_⟩,?_,?_⟩ ?_
 . simp -dsimp -implicitDefEqProofs only [go_sem,kS]
 . simp -dsimp -implicitDefEqProofs only [go_sem,gV,uq6];all_goals try (simp;done)
 . simp -dsimp -implicitDefEqProofs only [go_sem,gV,uq6]
 . simp -dsimp -implicitDefEqProofs only [go_sem,kS];all_goals try (simp;done)
 rintro r m' ⟨hr,hm'⟩;rw [hr,hm'];simp only [zR,gV];simp -dsimp -implicitDefEqProofs only [go_sem,uq6];((refine pq (oa:=some 1900000500) (oc:=some 1900000501) rfl ?_ (dZ.mk ?_ rfl) (dZ.mk ?_ rfl) ?_ ?_ ?_ ⟨rfl,rfl,?_,?_⟩);all_goals first|exact rfl|(simp;done)|skip)
theorem I5 (d:Dk) (hk:k_ d=true) (x:lU) (n:Nat) (hn:n<=9999999999999) (va vk:Nat):fL pG 84 (zR va vk d) [.ptr 1900000006 0 0 0,lP [iI,x],aP [n]] (λr m'=>r=eI (dQ d (.drop n)).2/\m'=zR (va+1) (vk+1) (dQ d (.drop n)).1):=by
 refine fL.dk (fL.tL 109 [.tmp 6] func84 rfl rfl rfl rfl rfl (oT rfl) (by decide) ?_);obtain ⟨hF,ha1,ha2,hk1,hk2⟩:=dkA hk;have hi:=kT (n:Int) 0 ((d.k.length:Int)-1);have hal:=hF.al;have hkl:=hF.kl;have hl1:=fD d.a (by omega) hF.S6;have hl2:=fD d.k (by omega) hF.VG;have w1:decide (iI=[109,97,107,101,114])=false:=by decide
 have w2:decide (iI=[107,101,121])=false:=by decide
 have w3:decide (iI=[100,114,111,112])=true:=by decide
 simp only [dQ];rw [gV];have t1:(d.a.map aP).take d.a.length=d.a.map aP:=b6 (by simp);have t2:(d.k.map aP).take d.k.length=d.k.map aP:=b6 (by simp);by_cases hl:n<d.k.length
 . rw [show bx (n:Int) 0 ((d.k.length:Int)-1)=true by simp only [bx,uq0,decide_eq_true_eq];omega] at hi;rw [if_pos hl];simp -dsimp -implicitDefEqProofs only [go_sem,w1,w2,w3,uq6,uq9,bj];((with_reducible and_intros);all_goals try omega);refine aj.draw mixed rfl ?_;simp -dsimp -implicitDefEqProofs only [go_sem];((with_reducible and_intros);all_goals try first|omega|(refine ⟨?_,?_⟩<;>omega));refine an hi ?_;simp -dsimp -implicitDefEqProofs only [go_sem];((with_reducible and_intros);all_goals try first|omega|exact rfl);refine aj.draw mixed rfl ?_;simp -dsimp -implicitDefEqProofs only [go_sem,t1];refine an hl1 ?_;simp -dsimp -implicitDefEqProofs only [go_sem,uq6];((with_reducible and_intros);all_goals try ((refine ⟨?_,?_⟩<;>omega)));refine yw (sh:=⟨1,false⟩) (zs:=[.slice none 0 0]) ⟨Tryz.f114,_,func114,by decide,rfl⟩ rfl (by simp) (by simp;omega) (by decide) rfl (by intro u hu;rw [dR] at hu;subst hu;rfl) (λw b cap cs e hb hcs b9 hle h1=> ?_) ?_
   . have h9:=vw w b cap n (n+1) (d.a.map aP).length cs e hb hcs b9 rfl (by simp;omega) hle h1;simpa only [Nat.mul_one] using h9
   rw [Cs,uq6];simp -dsimp -implicitDefEqProofs only [go_sem];refine an hl2 ?_;simp -dsimp -implicitDefEqProofs only [go_sem,uq6];((with_reducible and_intros);all_goals try ((refine ⟨?_,?_⟩<;>omega)));refine yw (sh:=⟨1,false⟩) (zs:=[.slice none 0 0]) ⟨Tryz.f114,_,func114,by decide,rfl⟩ rfl (by simp) (by simp;omega) (by decide) rfl (by intro u hu;rw [dR] at hu;subst hu;rfl) (λw b cap cs e hb hcs b9 hle h1=> ?_) ?_
   . have h9:=vw w b cap n (n+1) (d.k.map aP).length cs e hb hcs b9 rfl (by simp;omega) hle h1;simpa only [Nat.mul_one] using h9
   rw [Cs,uq6];simp -dsimp -implicitDefEqProofs only [go_sem];((with_reducible and_intros);all_goals try exact rfl);have el1:(d.a.eraseIdx n).length=d.a.length-1:=(by rw [List.length_eraseIdx,if_pos (by omega)]);have el2:(d.k.eraseIdx n).length=d.k.length-1:=(by rw [List.length_eraseIdx,if_pos (by omega)]);((refine pq (oa:=some 73000) (oc:=some 82000) rfl ?_ (dZ.mk ?_ rfl) (dZ.mk ?_ rfl) ?_ ?_ ?_ ⟨rfl,rfl,?_,?_⟩);all_goals first|exact rfl|(simp;done)|(rw [uq6];omega)|skip)
 rw [show bx (n:Int) 0 ((d.k.length:Int)-1)=false by rw [Bool.eq_false_iff];simp only [bx,ne_eq,uq0,decide_eq_true_eq];omega] at hi;rw [if_neg hl];simp -dsimp -implicitDefEqProofs only [go_sem,w1,w2,w3,uq6,uq9,bj];((with_reducible and_intros);all_goals try omega);refine aj.draw mixed rfl ?_;simp -dsimp -implicitDefEqProofs only [go_sem];((with_reducible and_intros);all_goals try first|omega|(refine ⟨?_,?_⟩<;>omega));refine an hi ?_;simp -dsimp -implicitDefEqProofs only [go_sem];((with_reducible and_intros);all_goals try exact rfl);((refine pq (oa:=some 1900000500) (oc:=some 1900000501) rfl ?_ (dZ.mk ?_ rfl) (dZ.mk ?_ rfl) ?_ ?_ ?_ ⟨rfl,rfl,?_,?_⟩);all_goals first|exact rfl|(simp;done)|skip)
theorem I6 (d:Dk) (hk:k_ d=true) (x:lU) (n:Nat) (hn:n<=9999999999999) (va vk:Nat):fL pG 84 (zR va vk d) [.ptr 1900000006 0 0 0,lP [gZ,x],aP [n]] (λr m'=>r=eI (dQ d (.find n)).2/\m'=zR (va+1) (vk+1) (dQ d (.find n)).1):=by
 refine fL.dk (fL.tL 109 [.tmp 6] func84 rfl rfl rfl rfl rfl (oT rfl) (by decide) ?_);obtain ⟨hF,ha1,ha2,hk1,hk2⟩:=dkA hk;have hal:=hF.al;have hq:=Qr d.m d.a n ha1 ha2;have w1:decide (gZ=[109,97,107,101,114])=false:=by decide
 have w2:decide (gZ=[107,101,121])=false:=by decide
 have w3:decide (gZ=[100,114,111,112])=false:=by decide
 have w4:decide (gZ=[102,105,110,100])=true:=by decide
 simp only [dQ];rw [gV];have t1:(d.a.map aP).take d.a.length=d.a.map aP:=b6 (by simp);generalize gN d.m d.a n=q at*;by_cases hc:q.2.2=0
 . rw [if_pos hc];rw [hc] at hq;have e0:((0:Int) != 0)=false:=rfl;simp -dsimp -implicitDefEqProofs only [go_sem,w1,w2,w3,w4,uq6,uq9,bj];((with_reducible and_intros);all_goals try omega);refine aj.draw mixed rfl ?_;simp -dsimp -implicitDefEqProofs only [go_sem];refine vo 6 ?_ rfl ?_
   . exact λus h1 h2=>Cr us h1 h2
   simp -dsimp -implicitDefEqProofs only [go_sem,bI,bd];((with_reducible and_intros);all_goals try omega);refine an hq ?_;simp -dsimp -implicitDefEqProofs only [go_sem,e0];((with_reducible and_intros);all_goals try exact rfl);((refine pq (oa:=some 1900000500) (oc:=some 99000) rfl ?_ (dZ.mk ?_ rfl) (dZ.mk ?_ rfl) ?_ ?_ ?_ ⟨rfl,rfl,?_,?_⟩);all_goals first|exact rfl|(simp;done)|skip)
 rw [if_neg hc];have e0:(q.2.2 != 0)=true:=bne_iff_ne.2 hc;simp -dsimp -implicitDefEqProofs only [go_sem,w1,w2,w3,w4,uq6,uq9,bj];((with_reducible and_intros);all_goals try omega);refine aj.draw mixed rfl ?_;simp -dsimp -implicitDefEqProofs only [go_sem];refine vo 6 ?_ rfl ?_
 . exact λus h1 h2=>Cr us h1 h2
 simp -dsimp -implicitDefEqProofs only [go_sem,bI,bd];((with_reducible and_intros);all_goals try omega);refine an hq ?_;simp -dsimp -implicitDefEqProofs only [go_sem,e0];((with_reducible and_intros);all_goals try exact rfl);((refine pq (oa:=some 1900000500) (oc:=some 1900000501) rfl ?_ (dZ.mk ?_ rfl) (dZ.mk ?_ rfl) ?_ ?_ ?_ ⟨rfl,rfl,?_,?_⟩);all_goals first|exact rfl|(simp;done)|skip)
theorem I7 (d:Dk) (hk:k_ d=true):Fn pG 80 [mV d,lP [iZ],aP []] true (· = .aX [eS (b8 [45] d .Ni).1,eI (b8 [45] d .Ni).2]):=by
 obtain ⟨hF,ha1,ha2,hk1,hk2⟩:=dkA hk;have hq:=ud d.m d.a d.k ha1 ha2 hk1 hk2;have hn:=Cq hk;have ht:=cC ((mT d.m d.a d.k).length:Int) (by omega);have w1:decide (iZ=[102,97,108,115,101])=true:=by decide
 simp only [b8];generalize mT d.m d.a d.k=L at*;generalize bT d.m d.a d.k=c at*;refine Fn.av 164 [.tmp 6,.tmp 7] func80 (hv:= ?_);simp -dsimp -implicitDefEqProofs only [go_sem,w1,uq9,bj];((with_reducible and_intros);all_goals try omega);refine au hq (by simp [ax,ao,aq,aF]) ?_;simp -dsimp -implicitDefEqProofs only [go_sem];refine aa ht ?_;simp -dsimp -implicitDefEqProofs only [go_sem]
theorem zU (d:Dk) (hk:k_ d=true):Fn pG 80 [mV d,lP [e_],aP []] true (· = .aX [eS (b8 [45] d .cj).1,eI (b8 [45] d .cj).2]):=by
 obtain ⟨hF,ha1,ha2,hk1,hk2⟩:=dkA hk;have hq:=za d.m d.a d.k ha1 ha2 hk1 hk2;have hn:=ry hF.pg d.a d.k;have hb:0<=(if bg d.m d.a d.k=true then ((cj d.m d.a d.k).length:Int) else 0)/\(if bg d.m d.a d.k=true then ((cj d.m d.a d.k).length:Int) else 0)<=262144:=by split<;>omega
 have ht:=cC (if bg d.m d.a d.k=true then ((cj d.m d.a d.k).length:Int) else 0) (by omega);have w1:decide (e_=[102,97,108,115,101])=false:=by decide
 have w2:decide (e_=[103,104,111,115,116,115])=true:=by decide
 simp only [b8];generalize (if bg d.m d.a d.k=true then ((cj d.m d.a d.k).length:Int) else 0)=L at*;generalize (if bg d.m d.a d.k=true then (0:Int) else 1)=c at*;refine Fn.av 164 [.tmp 6,.tmp 7] func80 (hv:= ?_);simp -dsimp -implicitDefEqProofs only [go_sem,w1,w2,uq9,bj];((with_reducible and_intros);all_goals try omega);refine aa hq ?_;simp -dsimp -implicitDefEqProofs only [go_sem];refine aa ht ?_;simp -dsimp -implicitDefEqProofs only [go_sem]
theorem Du (d:Dk) (hk:k_ d=true):Fn pG 80 [mV d,lP [fQ],aP []] true (· = .aX [eS (b8 [45] d .count).1,eI (b8 [45] d .count).2]):=by
 obtain ⟨hF,ha1,ha2,hk1,hk2⟩:=dkA hk;have hq:=Dh d.m;have hn:=rq hF.pg;have hb:0<=(if aW d.m=true then iM d.m else 0)/\(if aW d.m=true then iM d.m else 0)<=262144:=by split<;>omega
 have ht:=cC (if aW d.m=true then iM d.m else 0) (by omega);have w1:decide (fQ=[102,97,108,115,101])=false:=by decide
 have w2:decide (fQ=[103,104,111,115,116,115])=false:=by decide
 have w3:decide (fQ=[99,111,117,110,116])=true:=by decide
 simp only [b8];generalize (if aW d.m=true then iM d.m else 0)=L at*;generalize (if aW d.m=true then (0:Int) else 1)=c at*;refine Fn.av 164 [.tmp 6,.tmp 7] func80 (hv:= ?_);simp -dsimp -implicitDefEqProofs only [go_sem,w1,w2,w3,uq9,bj];((with_reducible and_intros);all_goals try omega);refine aa hq ?_;simp -dsimp -implicitDefEqProofs only [go_sem];refine aa ht ?_;simp -dsimp -implicitDefEqProofs only [go_sem]
theorem zV (d:Dk) (hk:k_ d=true):Fn pG 80 [mV d,lP [dm],aP []] true (· = .aX [eS (b8 [45] d .j7).1,eI (b8 [45] d .j7).2]):=by
 obtain ⟨hF,ha1,ha2,hk1,hk2⟩:=dkA hk;have hq:=v8 d.m d.a d.k ha1 ha2 hk1 hk2;have hb:0<=(if bg d.m d.a d.k=true then oq d.m d.a d.k else 0)/\(if bg d.m d.a d.k=true then oq d.m d.a d.k else 0)<=1000000:=by
  split
  . rename_i h;exact Kc h
  omega
 have ht:=cC (if bg d.m d.a d.k=true then oq d.m d.a d.k else 0) (by omega);have w1:decide (dm=[102,97,108,115,101])=false:=by decide
 have w2:decide (dm=[103,104,111,115,116,115])=false:=by decide
 have w3:decide (dm=[99,111,117,110,116])=false:=by decide
 have w4:decide (dm=[119,97,102,101,114,115])=true:=by decide
 simp only [b8];generalize (if bg d.m d.a d.k=true then oq d.m d.a d.k else 0)=L at*;generalize (if bg d.m d.a d.k=true then (0:Int) else 1)=c at*;refine Fn.av 164 [.tmp 6,.tmp 7] func80 (hv:= ?_);simp -dsimp -implicitDefEqProofs only [go_sem,w1,w2,w3,w4,uq9,bj];((with_reducible and_intros);all_goals try omega);refine aa hq ?_;simp -dsimp -implicitDefEqProofs only [go_sem];refine aa ht ?_;simp -dsimp -implicitDefEqProofs only [go_sem]
theorem GK (d:Dk) (hk:k_ d=true) (x:lU) (n:Nat) (hn:n<=9999999999999):Fn pG 80 [mV d,lP [je,x],aP [n]] true (· = .aX [eS (b8 [45] d (.lock n)).1,eI (b8 [45] d (.lock n)).2]):=by
 obtain ⟨hF,ha1,ha2,hk1,hk2⟩:=dkA hk;have hq:=IS d.m d.a d.k ha1 ha2 hk1 hk2;have w1:decide (je=[102,97,108,115,101])=false:=by decide
 have w2:decide (je=[103,104,111,115,116,115])=false:=by decide
 have w3:decide (je=[99,111,117,110,116])=false:=by decide
 have w4:decide (je=[119,97,102,101,114,115])=false:=by decide
 have w5:decide (je=[108,111,99,107])=true:=by decide
 simp only [b8];by_cases hc:bT d.m d.a d.k=0
 . obtain ⟨h1,h2⟩:=ir hc;rw [if_pos hc] at hq ⊢;rw [hc] at hq;have e0:((0:Int) != 0)=false:=rfl;have hll:=dM d.m d.a d.k (d.a.getD 0 []).length;by_cases hl:n<(d.a.getD 0 []).length
   . rw [if_pos hl];have hg:=jS d.m d.a d.k hl;have h8:∀x∈bO d.m d.a d.k n,x.length<=8:=λx hx=>by
      have:=iG d.m d.a d.k n x hx;have:=hF.num;omega
     have hp:=Gv d.m (bO d.m d.a d.k n) hF.pg (zh h1 h2 hl) h8;have dl:decide ((n:Int)≥((d.a.getD 0 []).length:Int))=false:=dF (by omega);generalize qa (pins d.m (bO d.m d.a d.k n))=T at*;have hlx:n<(az d.m d.a d.k (d.a.getD 0 []).length).length:=(by omega);generalize bO d.m d.a d.k n=lk at*;generalize az d.m d.a d.k (d.a.getD 0 []).length=LL at*;generalize (d.a.getD 0 []).length=D at*;subst hll;refine Fn.av 164 [.tmp 6,.tmp 7] func80 (hv:= ?_);simp -dsimp -implicitDefEqProofs only [go_sem,w1,w2,w3,w4,w5,uq9,bj];((with_reducible and_intros);all_goals try omega);refine au hq (by simp [ax,ao,aq,aF]) ?_;simp -dsimp -implicitDefEqProofs only [go_sem,e0,uq9,bj];((with_reducible and_intros);all_goals try omega);all_goals try simp -dsimp -implicitDefEqProofs only [go_sem,dl]
     refine aj.draw mixed rfl ?_;simp -dsimp -implicitDefEqProofs only [go_sem,hg,uq9,bj];((with_reducible and_intros);all_goals try omega);refine an hp ?_;simp -dsimp -implicitDefEqProofs only [go_sem];all_goals (first|exact rfl|skip)
   rw [if_neg hl];have dl:decide ((n:Int)≥((d.a.getD 0 []).length:Int))=true:=dT (by omega);generalize az d.m d.a d.k (d.a.getD 0 []).length=LL at*;generalize (d.a.getD 0 []).length=D at*;subst hll;refine Fn.av 164 [.tmp 6,.tmp 7] func80 (hv:= ?_);simp -dsimp -implicitDefEqProofs only [go_sem,w1,w2,w3,w4,w5,uq9,bj];((with_reducible and_intros);all_goals try omega);refine au hq (by simp [ax,ao,aq,aF]) ?_;simp -dsimp -implicitDefEqProofs only [go_sem,e0,uq9,bj];((with_reducible and_intros);all_goals try omega);all_goals try simp -dsimp -implicitDefEqProofs only [go_sem,dl]
 rw [if_neg hc] at hq ⊢;have e0:(bT d.m d.a d.k != 0)=true:=bne_iff_ne.2 hc;generalize bT d.m d.a d.k=c at*;refine Fn.av 164 [.tmp 6,.tmp 7] func80 (hv:= ?_);simp -dsimp -implicitDefEqProofs only [go_sem,w1,w2,w3,w4,w5,uq9,bj];((with_reducible and_intros);all_goals try omega);refine au hq (by simp [ax,ao,aq,aF]) ?_;simp -dsimp -implicitDefEqProofs only [go_sem,e0]
theorem Dv (d:Dk) (hk:k_ d=true) (x:lU) (hx:x.length<=1048576):Fn pG 80 [mV d,lP [dv,x],aP []] true (· = .aX [eS (b8 [45] d (.opens x)).1,eI (b8 [45] d (.opens x)).2]):=by
 obtain ⟨hF,ha1,ha2,hk1,hk2⟩:=dkA hk;have hr:=Fn.shared (yZ d.m x hx);have w1:decide (dv=[102,97,108,115,101])=false:=by decide
 have w2:decide (dv=[103,104,111,115,116,115])=false:=by decide
 have w3:decide (dv=[99,111,117,110,116])=false:=by decide
 have w4:decide (dv=[119,97,102,101,114,115])=false:=by decide
 have w5:decide (dv=[108,111,99,107])=false:=by decide
 have w6:decide (dv=[111,112,101,110,115])=true:=by decide
 simp only [b8];by_cases hc:(j_ d.m x).2=0
 . have hkl:(j_ d.m x).1.length<=1048576:=by
    unfold j_;split
    . split
      . rw [da];exact hx
      simp
    simp
   have hq:=Fn.shared (y9 d.m d.a d.k ha1 ha2 hk1 hk2 (j_ d.m x).1 hkl);have hin:=Qa (m:=d.m) (t:=d.a) (ab:=d.k) (c:=(j_ d.m x).1);have jt:(Cb d.m d.a d.k (j_ d.m x).1).2≠0->(Cb d.m d.a d.k (j_ d.m x).1).1=[]:=by
    unfold Cb;split
    . split
      . intro h;exact absurd rfl h
      intro _;rfl
    intro _;rfl
   rw [if_pos hc];rw [hc] at hr;have e0:((0:Int) != 0)=false:=rfl;generalize (j_ d.m x).1=K at*;generalize Cb d.m d.a d.k K=D at*;obtain ⟨D1,D2⟩:=D;simp only at hq hin jt ⊢;have hl:=Mx D1 (by omega) hin.2;have hR:(if D2=0 then (yX D1,(0:Int)) else ([45],D2))=(yX D1,D2):=by
    split
    . rename_i h;rw [h]
    rename_i h;rw [jt h];rfl
   rw [hR];clear hR jt;refine Fn.av 164 [.tmp 6,.tmp 7] func80 (hv:= ?_);simp -dsimp -implicitDefEqProofs only [go_sem,w1,w2,w3,w4,w5,w6,uq9,bj];((with_reducible and_intros);all_goals try omega);refine aj.draw mixed rfl ?_;simp -dsimp -implicitDefEqProofs only [go_sem];((with_reducible and_intros);all_goals try omega);refine aH hr (by simp [ax,ao,aq,aF]) ?_;simp -dsimp -implicitDefEqProofs only [go_sem,e0];((with_reducible and_intros);all_goals try exact rfl);refine au hq (by simp [ax,ao,aq,aF]) ?_;simp -dsimp -implicitDefEqProofs only [go_sem];refine aa hl ?_;simp -dsimp -implicitDefEqProofs only [go_sem]
 rw [if_neg hc];have e0:((j_ d.m x).2 != 0)=true:=bne_iff_ne.2 hc;generalize j_ d.m x=K at*;refine Fn.av 164 [.tmp 6,.tmp 7] func80 (hv:= ?_);simp -dsimp -implicitDefEqProofs only [go_sem,w1,w2,w3,w4,w5,w6,uq9,bj];((with_reducible and_intros);all_goals try omega);refine aj.draw mixed rfl ?_;simp -dsimp -implicitDefEqProofs only [go_sem];((with_reducible and_intros);all_goals try omega);refine aH hr (by simp [ax,ao,aq,aF]) ?_;simp -dsimp -implicitDefEqProofs only [go_sem,e0];all_goals try exact rfl
theorem Dw (d:Dk) (hk:k_ d=true):Fn pG 80 [mV d,lP [eu],aP []] true (· = .aX [eS (b8 [45] d .pj).1,eI (b8 [45] d .pj).2]):=by
 obtain ⟨hF,ha1,ha2,hk1,hk2⟩:=dkA hk;have hq:Fn pG 106 [jQ d.m d.a,aQ d.k,eI 1] false (· = .aX [aQ (ze d.m d.a d.k),eI (if bg d.m d.a d.k=true then 0 else 1)]):=Fn.y5 (Fn.mono (Qh d.m d.a d.k ha1 ha2 hk1 hk2) λx hx=>⟨_,hx,rfl⟩);have hw:=λg=>GF (m:=d.m) (t:=d.a) (ab:=d.k) (g:=g);have hkt:=λg hg hx=>pZ g hg hx;have w1:decide (eu=[102,97,108,115,101])=false:=by decide
 have w2:decide (eu=[103,104,111,115,116,115])=false:=by decide
 have w3:decide (eu=[99,111,117,110,116])=false:=by decide
 have w4:decide (eu=[119,97,102,101,114,115])=false:=by decide
 have w5:decide (eu=[108,111,99,107])=false:=by decide
 have w6:decide (eu=[111,112,101,110,115])=false:=by decide
 have w7:decide (eu=[119,111,114,115,116])=true:=by decide
 simp only [b8];generalize ze d.m d.a d.k=L at*;rcases L with _|⟨g,L⟩
 . have e1:(((([]:lL).length:Nat):Int)==0)=true:=rfl;generalize (if bg d.m d.a d.k=true then (0:Int) else 1)=c at*;refine Fn.av 164 [.tmp 6,.tmp 7] func80 (hv:= ?_);simp -dsimp -implicitDefEqProofs only [go_sem,w1,w2,w3,w4,w5,w6,w7,uq9,bj];((with_reducible and_intros);all_goals try omega);refine au hq (by simp [ax,ao,aq,aF]) ?_;simp -dsimp -implicitDefEqProofs only [go_sem,bj,uq7]
 obtain ⟨g1,g2,g3⟩:=hw g (by simp);have gk:=gv (m:=d.m) (c:=g) (beq_iff_eq.2 g3);have gl:g.length<=1048576:=by have:=gk.1;have:=hF.num;omega
 have hkg:=hkt g gl λy hy=>by have:=gk.2 y hy;have:=hF.num;omega
 generalize (if bg d.m d.a d.k=true then (0:Int) else 1)=c at*;have e1:((((L.length+1:Nat):Nat):Int)==0)=false:=by rw [beq_eq_false_iff_ne];omega
 clear hw hkt;refine Fn.av 164 [.tmp 6,.tmp 7] func80 (hv:= ?_);simp -dsimp -implicitDefEqProofs only [go_sem,w1,w2,w3,w4,w5,w6,w7,uq9,bj];((with_reducible and_intros);all_goals try omega);refine au hq (by simp [ax,ao,aq,aF]) ?_;simp -dsimp -implicitDefEqProofs only [go_sem,e1,uq9,uq5];((with_reducible and_intros);all_goals try omega);refine aa hkg ?_;simp -dsimp -implicitDefEqProofs only [go_sem]
theorem Dx (d:Dk) (hk:k_ d=true) (x y:lU) (n s:Nat) (hn:n<=9999999999999/\s<=9999999999999):Fn pG 80 [mV d,lP [dX,x,y],aP [n,s]] true (· = .aX [eS (b8 [45] d (.pn n s)).1,eI (b8 [45] d (.pn n s)).2]):=by
 obtain ⟨hF,ha1,ha2,hk1,hk2⟩:=dkA hk;have w1:decide (dX=[102,97,108,115,101])=false:=by decide
 have w2:decide (dX=[103,104,111,115,116,115])=false:=by decide
 have w3:decide (dX=[99,111,117,110,116])=false:=by decide
 have w4:decide (dX=[119,97,102,101,114,115])=false:=by decide
 have w5:decide (dX=[108,111,99,107])=false:=by decide
 have w6:decide (dX=[111,112,101,110,115])=false:=by decide
 have w7:decide (dX=[119,111,114,115,116])=false:=by decide
 simp only [b8];by_cases hl:n<d.k.length
 . rw [if_pos hl];have gn:=get_some hl;have ek:d.k.getD n []=d.k[n]:=(by rw [List.getD_eq_getElem?_getD,gn];rfl);rw [ek];have hq:=IP d.m d.k[n] 0 (s:Int) (hk2 _ (uq4 hl));have dl:decide ((n:Int)≥(d.k.length:Int))=false:=dF (by omega);generalize j4 d.m d.k[n] 0 (s:Int)=T at*;generalize d.k[n]=K at*;refine Fn.av 164 [.tmp 6,.tmp 7] func80 (hv:= ?_);simp -dsimp -implicitDefEqProofs only [go_sem,w1,w2,w3,w4,w5,w6,w7,uq9,bj];((with_reducible and_intros);all_goals try omega);refine aj.draw mixed rfl ?_;simp -dsimp -implicitDefEqProofs only [go_sem];((with_reducible and_intros);all_goals try first|omega|exact rfl);all_goals try simp -dsimp -implicitDefEqProofs only [go_sem,dl]
   refine aj.draw mixed rfl ?_;simp -dsimp -implicitDefEqProofs only [go_sem,gn];((with_reducible and_intros);all_goals try omega);refine an hq ?_;simp -dsimp -implicitDefEqProofs only [go_sem];all_goals (first|exact rfl|skip)
 rw [if_neg hl];have dl:decide ((n:Int)≥(d.k.length:Int))=true:=dT (by omega);refine Fn.av 164 [.tmp 6,.tmp 7] func80 (hv:= ?_);simp -dsimp -implicitDefEqProofs only [go_sem,w1,w2,w3,w4,w5,w6,w7,uq9,bj];((with_reducible and_intros);all_goals try omega);refine aj.draw mixed rfl ?_;simp -dsimp -implicitDefEqProofs only [go_sem];((with_reducible and_intros);all_goals try first|omega|exact rfl);all_goals try simp -dsimp -implicitDefEqProofs only [go_sem,dl]
theorem S7 (m:aL) (x:lU):(j_ m x).1.length<=x.length:=by
 unfold j_;split
 . split
   . rw [da];exact Nat.le_refl _
   simp
 simp
theorem Qw (d:Dk) (hk:k_ d=true) (x y:lU) (hx:x.length<=1000000) (hy:y.length<=1000000):Fn pG 94 [mV d,eS x,eS y] false (· = .aX [mV (v_ d x y).1,eI (v_ d x y).2]):=by
 refine Fn.bY 52 [.cell 6 26,.tmp 7] func94 (hv:= ?_);obtain ⟨hF,ha1,ha2,hk1,hk2⟩:=dkA hk;have hr:=Fn.shared (yZ d.m x (by omega));have hrl:=S7 d.m x;unfold v_;by_cases hc:(j_ d.m x).2=0
 . have e0:((0:Int) != 0)=false:=rfl;have hrd:=Fn.shared (B7 y (by omega));rw [if_pos hc];rw [hc] at hr;generalize (j_ d.m x).1=K at*;rcases hdg:y.all dO with _|_
   . rw [hdg] at hrd;simp -dsimp -implicitDefEqProofs only [go_sem];refine au hr (by simp [ax,ao,aq,aF]) ?_;simp -dsimp -implicitDefEqProofs only [go_sem,e0];refine au hrd (by simp [ax,ao,aF]) ?_;simp -dsimp -implicitDefEqProofs only [go_sem]
   rw [hdg,if_pos rfl] at hrd;rw [if_pos rfl];have hcl:=da y;generalize bq y=R at*;have hl1:=vL d.a (by have:=hF.al;omega) ha2;have hl2:=vL d.k (by have:=hF.al;have:=hF.kl;omega) hk2
   have hd:=Mg d.m (d.a++[R]) (d.k++[K]) (by have:=hF.al;simp;omega) (λz hz=>by
    rcases List.mem_append.1 hz with hz|hz
    . exact ha2 z hz
    . rw [dR] at hz;subst hz;omega) (by have:=hF.al;have:=hF.kl;simp;omega) (λz hz=>by
    rcases List.mem_append.1 hz with hz|hz
    . exact hk2 z hz
    rw [dR] at hz;subst hz;omega)
   simp only [WX,aQ,List.map_append,uq9,bj] at hd;have hal:=hF.al;have hkl:=hF.kl;have t1:(d.a.map aP).take d.a.length=d.a.map aP:=b6 (by simp);have t2:(d.k.map aP).take d.k.length=d.k.map aP:=b6 (by simp);have t3:(d.a.map aP++[aP R]).take (d.a.length+1)=d.a.map aP++[aP R]:=b6 (by simp);have t4:(d.k.map aP++[aP K]).take (d.k.length+1)=d.k.map aP++[aP K]:=b6 (by simp);have m1:(d.a++[R]).map aP=d.a.map aP++[aP R]:=(by simp);have m2:(d.k++[K]).map aP=d.k.map aP++[aP K]:=(by simp);rcases hdk:gR d.m (d.a++[R]) (d.k++[K]) with _|_
   . rw [hdk] at hd;rw [if_neg (by simp)];simp -dsimp -implicitDefEqProofs only [go_sem];refine au hr (by simp [ax,ao,aq,aF]) ?_;simp -dsimp -implicitDefEqProofs only [go_sem,e0];refine au hrd (by simp [ax,ao,aF]) ?_;simp -dsimp -implicitDefEqProofs only [go_sem];refine aj.draw mixed rfl ?_;simp -dsimp -implicitDefEqProofs only [go_sem];refine kQ hl1 (by decide) rfl (by decide) ?_;simp -dsimp -implicitDefEqProofs only [go_sem,t1];refine .inr ⟨by omega,?_⟩;refine kQ hl2 (by decide) rfl (by decide) ?_;simp -dsimp -implicitDefEqProofs only [go_sem,t2];refine .inr ⟨by omega,?_⟩;simp -dsimp -implicitDefEqProofs only [go_sem,t3,t4];((with_reducible and_intros);all_goals try exact rfl);refine aa hd ?_;simp -dsimp -implicitDefEqProofs only [go_sem]
   rw [hdk] at hd;rw [if_pos rfl];simp -dsimp -implicitDefEqProofs only [go_sem];refine au hr (by simp [ax,ao,aq,aF]) ?_;simp -dsimp -implicitDefEqProofs only [go_sem,e0];refine au hrd (by simp [ax,ao,aF]) ?_;simp -dsimp -implicitDefEqProofs only [go_sem];refine aj.draw mixed rfl ?_;simp -dsimp -implicitDefEqProofs only [go_sem];refine kQ hl1 (by decide) rfl (by decide) ?_;simp -dsimp -implicitDefEqProofs only [go_sem,t1];refine .inr ⟨by omega,?_⟩;refine kQ hl2 (by decide) rfl (by decide) ?_;simp -dsimp -implicitDefEqProofs only [go_sem,t2];refine .inr ⟨by omega,?_⟩;simp -dsimp -implicitDefEqProofs only [go_sem,t3,t4];((with_reducible and_intros);all_goals try exact rfl);refine aa hd ?_;simp -dsimp -implicitDefEqProofs only [go_sem,t3,t4];all_goals first|(simp;done)|skip
 rw [if_neg hc];have e0:((j_ d.m x).2 != 0)=true:=bne_iff_ne.2 hc;generalize j_ d.m x=K at*;simp -dsimp -implicitDefEqProofs only [go_sem];refine au hr (by simp [ax,ao,aq,aF]) ?_;simp -dsimp -implicitDefEqProofs only [go_sem,e0]
theorem Dy (d:Dk) (hk:k_ d=true) (x1 x2 x3 x4 x5:lU) (n1 n2 n3 n4 n5:Nat):Fn pG 79 [mV d,lP [gU,x1,x2,x3,x4,x5],aP [n1,n2,n3,n4,n5]] false (· = .aX [mV (dQ d (.la ⟨n1,n2,n3,n4,n5⟩)).1,eI (dQ d (.la ⟨n1,n2,n3,n4,n5⟩)).2]):=by
 refine Fn.y5 (Fn.mono (post:=λx=>tv x (.aX [mV (dQ d (.la ⟨n1,n2,n3,n4,n5⟩)).1,eI (dQ d (.la ⟨n1,n2,n3,n4,n5⟩)).2])) (Fn.bY 102 [.cell 6 26,.tmp 7] func79 (hv:= ?_)) λx hx=>⟨_,hx,rfl⟩);have hm:=fB ⟨n1,n2,n3,n4,n5⟩;have w1:decide (gU=[109,97,107,101,114])=true:=by decide
 simp only [dQ];rcases lu:aW ⟨n1,n2,n3,n4,n5⟩ with _|_
 . rw [lu] at hm;rw [if_neg (by simp)];simp -dsimp -implicitDefEqProofs only [go_sem,w1,uq9,bj];((with_reducible and_intros);all_goals try omega);refine aj.draw mixed rfl ?_;simp -dsimp -implicitDefEqProofs only [go_sem];((with_reducible and_intros);all_goals try first|omega|exact rfl);refine aa hm ?_;simp -dsimp -implicitDefEqProofs only [go_sem]
 rw [lu] at hm;rw [if_pos rfl];simp -dsimp -implicitDefEqProofs only [go_sem,w1,uq9,bj];((with_reducible and_intros);all_goals try omega);refine aj.draw mixed rfl ?_;simp -dsimp -implicitDefEqProofs only [go_sem];((with_reducible and_intros);all_goals try first|omega|exact rfl);refine aa hm ?_;simp -dsimp -implicitDefEqProofs only [go_sem]
theorem I8 (d:Dk) (hk:k_ d=true) (x y:lU) (hx:x.length<=1000000) (hy:y.length<=1000000):Fn pG 79 [mV d,lP [k8,x,y],aP []] false (· = .aX [mV (dQ d (.key x y)).1,eI (dQ d (.key x y)).2]):=by
 refine Fn.bY 102 [.cell 6 26,.tmp 7] func79 (hv:= ?_);have hq:=Qw d hk x y hx hy;have w1:decide (k8=[109,97,107,101,114])=false:=by decide
 have w2:decide (k8=[107,101,121])=true:=by decide
 simp only [dQ];generalize v_ d x y=q at*;simp -dsimp -implicitDefEqProofs only [go_sem,w1,w2,uq9,bj];((with_reducible and_intros);all_goals try omega);refine aj.draw mixed rfl ?_;simp -dsimp -implicitDefEqProofs only [go_sem];((with_reducible and_intros);all_goals try omega);refine aH hq (by simp [ax,ao,aq,aF]) ?_;simp -dsimp -implicitDefEqProofs only [go_sem];all_goals try exact rfl
theorem GL (d:Dk) (hk:k_ d=true) (x:lU) (n:Nat) (hn:n<=9999999999999):Fn pG 79 [mV d,lP [iI,x],aP [n]] false (· = .aX [mV (dQ d (.drop n)).1,eI (dQ d (.drop n)).2]):=by
 refine Fn.bY 102 [.cell 6 26,.tmp 7] func79 (hv:= ?_);obtain ⟨hF,ha1,ha2,hk1,hk2⟩:=dkA hk;have hi:=jD (n:Int) 0 ((d.k.length:Int)-1);have hal:=hF.al;have hkl:=hF.kl;have e1:=sY d.a n (by omega) ha2;have e2:=sY d.k n (by omega) hk2;have w1:decide (iI=[109,97,107,101,114])=false:=by decide
 have w2:decide (iI=[107,101,121])=false:=by decide
 have w3:decide (iI=[100,114,111,112])=true:=by decide
 simp only [dQ];by_cases hl:n<d.k.length
 . rw [show bx (n:Int) 0 ((d.k.length:Int)-1)=true by simp only [bx,uq0,decide_eq_true_eq];omega] at hi;rw [if_pos hl];simp -dsimp -implicitDefEqProofs only [go_sem,w1,w2,w3,uq9,bj];((with_reducible and_intros);all_goals try omega);refine aj.draw mixed rfl ?_;simp -dsimp -implicitDefEqProofs only [go_sem];((with_reducible and_intros);all_goals try first|omega|(refine ⟨?_,?_⟩<;>omega));refine an hi ?_;simp -dsimp -implicitDefEqProofs only [go_sem];((with_reducible and_intros);all_goals try exact rfl);refine aj.draw mixed rfl ?_;simp -dsimp -implicitDefEqProofs only [go_sem];((with_reducible and_intros);all_goals try omega);refine aH e1 (by simp [ax,ao,aF]) ?_;simp -dsimp -implicitDefEqProofs only [go_sem];((with_reducible and_intros);all_goals try omega);refine aH e2 (by simp [ax,ao,aF]) ?_;simp -dsimp -implicitDefEqProofs only [go_sem];all_goals try exact rfl
 rw [show bx (n:Int) 0 ((d.k.length:Int)-1)=false by rw [Bool.eq_false_iff];simp only [bx,ne_eq,uq0,decide_eq_true_eq];omega] at hi;rw [if_neg hl];simp -dsimp -implicitDefEqProofs only [go_sem,w1,w2,w3,uq9,bj];((with_reducible and_intros);all_goals try omega);refine aj.draw mixed rfl ?_;simp -dsimp -implicitDefEqProofs only [go_sem];((with_reducible and_intros);all_goals try first|omega|(refine ⟨?_,?_⟩<;>omega));refine an hi ?_;simp -dsimp -implicitDefEqProofs only [go_sem];all_goals try exact rfl
theorem GM (d:Dk) (hk:k_ d=true) (x:lU) (n:Nat) (hn:n<=9999999999999):Fn pG 79 [mV d,lP [gZ,x],aP [n]] false (· = .aX [mV (dQ d (.find n)).1,eI (dQ d (.find n)).2]):=by
 refine Fn.bY 102 [.cell 6 26,.tmp 7] func79 (hv:= ?_);obtain ⟨hF,ha1,ha2,hk1,hk2⟩:=dkA hk;have hal:=hF.al;have hq:=Qt d.m d.a n ha1 ha2;have hl:=yU d.a (by omega) ha2;have w1:decide (gZ=[109,97,107,101,114])=false:=by decide
 have w2:decide (gZ=[107,101,121])=false:=by decide
 have w3:decide (gZ=[100,114,111,112])=false:=by decide
 simp only [dQ];generalize gN d.m d.a n=q at*;by_cases hc:q.2.2=0
 . rw [if_pos hc];rw [hc] at hq;have e0:((0:Int) != 0)=false:=rfl;simp -dsimp -implicitDefEqProofs only [go_sem,w1,w2,w3,uq9,bj];((with_reducible and_intros);all_goals try omega);refine aj.draw mixed rfl ?_;simp -dsimp -implicitDefEqProofs only [go_sem];((with_reducible and_intros);all_goals try omega);refine aH hq (by simp [ax,ao,aq,aF]) ?_;simp -dsimp -implicitDefEqProofs only [go_sem,e0];((with_reducible and_intros);all_goals try exact rfl);refine aj.draw mixed rfl ?_;simp -dsimp -implicitDefEqProofs only [go_sem];refine aH hl (by simp [ax,ao,aF]) ?_;simp -dsimp -implicitDefEqProofs only [go_sem];all_goals try exact rfl
 rw [if_neg hc];have e0:(q.2.2 != 0)=true:=bne_iff_ne.2 hc;simp -dsimp -implicitDefEqProofs only [go_sem,w1,w2,w3,uq9,bj];((with_reducible and_intros);all_goals try omega);refine aj.draw mixed rfl ?_;simp -dsimp -implicitDefEqProofs only [go_sem];((with_reducible and_intros);all_goals try omega);refine aH hq (by simp [ax,ao,aq,aF]) ?_;simp -dsimp -implicitDefEqProofs only [go_sem,e0];all_goals try exact rfl
theorem GN (d:Dk) (hk:k_ d=true) {ws:List lU} {ns:lI} {c:Dr} (h:mU ws ns c) (hc:zj c=true) (hl:∀w∈ws,w.length<=1000000):Fn pG 79 [mV d,lP ws,aP ns] false (· = .aX [mV (dQ d c).1,eI (dQ d c).2]):=by
 cases h with
 |la=>exact Dy d hk ..
 |key x y=>exact I8 d hk x y (hl x (by simp)) (hl y (by simp))
 |drop x n hn=>exact GL d hk x n hn
 |find x n hn=>exact GM d hk x n hn
 |_=>cases hc
theorem Qx (d:Dk) (hk:k_ d=true) {ws:List lU} {ns:lI} {c:Dr} (h:mU ws ns c) (hc:zj c=false) (hl:∀w∈ws,w.length<=1000000):Fn pG 80 [mV d,lP ws,aP ns] true (· = .aX [eS (b8 [45] d c).1,eI (b8 [45] d c).2]):=by
 cases h with
 |Ni=>exact I7 d hk
 |cj=>exact zU d hk
 |count=>exact Du d hk
 |j7=>exact zV d hk
 |pj=>exact Dw d hk
 |lock x n hn=>exact GK d hk x n hn
 |opens x=>exact Dv d hk x (by have:=hl x (by simp);omega)
 |pn x y n s hn=>exact Dx d hk x y n s hn
 |_=>cases hc
theorem GO (m:aL) (x:lU):0<=(j_ m x).2/\(j_ m x).2<=6:=by
 unfold j_;split
 . split<;>simp
 simp
theorem I9 (m:aL) (t:lL) (lim:Nat):0<=(gN m t lim).2.2/\(gN m t lim).2.2<=6:=by unfold gN kZ;generalize dN m t lim t.length [] ⟨0,false,[]⟩=F;obtain ⟨b,tr,st,fd⟩:=F;rcases eW m t with _|_<;>rcases bx (lim:Int) 0 4000 with _|_<;>rcases fd with _|⟨f,r⟩<;>cases st<;>simp
theorem GP (m:aL) (key:lI) (se sec:Int):0<=(j4 m key se sec).2/\(j4 m key se sec).2<=6:=by
 have hc:0<=lZ m se sec/\lZ m se sec<=6:=by
  unfold lZ;split
  . split<;>simp
  simp
 unfold j4;split
 . split<;>simp
 exact hc
theorem Ct (d:Dk) (c:Dr):0<=(dQ d c).2/\(dQ d c).2<=6:=by
 cases c<;>simp only [dQ]
 . split<;>simp
 . unfold v_;split
   . split
     . split<;>simp
     simp
   exact GO d.m _
 . split<;>simp
 . split
   . simp
   exact I9 ..
 all_goals simp
theorem zm (e:lU) (d:Dk) (c:Dr):0<=(b8 e d c).2/\(b8 e d c).2<=6:=by
 have hcc:0<=bT d.m d.a d.k/\bT d.m d.a d.k<=6:=by
  unfold bT;split
  . split<;>simp
  simp
 have h01:∀b:Bool,0<=(if b=true then (0:Int) else 1)/\(if b=true then (0:Int) else 1)<=6:=λb=>by cases b<;>simp
 cases c<;>simp only [b8]
 case Ni=>exact hcc
 case cj=>exact h01 _
 case pj=>exact h01 _
 case count=>exact h01 _
 case j7=>exact h01 _
 case lock n=>
  split
  . split<;>simp
  exact hcc
 case opens x=>
  split
  . split
    . simp
    unfold Cb;split
    . split<;>simp
    simp
  exact GO d.m x
 case pn n s=>
  split
  . exact GP ..
  simp
 all_goals simp
theorem mU.head {ws:List lU} {ns:lI} {c:Dr} (h:mU ws ns c):∃w,ws[0]? =some w/\((zj c=true/\(w=gU\/w=k8\/w=iI\/w=gZ))\/(zj c=false/\w≠gU/\w≠k8/\w≠iI/\w≠gZ)):=by
 cases h
 case la=>exact ⟨_,rfl,.inl ⟨rfl,.inl rfl⟩⟩
 case key=>exact ⟨_,rfl,.inl ⟨rfl,.inr (.inl rfl)⟩⟩
 case drop=>exact ⟨_,rfl,.inl ⟨rfl,.inr (.inr (.inl rfl))⟩⟩
 case find=>exact ⟨_,rfl,.inl ⟨rfl,.inr (.inr (.inr rfl))⟩⟩
 all_goals exact ⟨_,rfl,.inr ⟨rfl,by decide,by decide,by decide,by decide⟩⟩
theorem vM {s:lU}:∀w∈(d_ s).1,w.length<=s.length:=by
 have h:=iY 32 s;unfold d_;split
 . simp
 split
 . exact h
 split
 . exact h
 simp
theorem nS {w:lU} (h:w=gU\/w=k8\/w=iI\/w=gZ):
 decide (w=[109,97,107,101,114])=true\/(decide (w=[109,97,107,101,114])=false/\decide (w=[107,101,121])=true)\/(decide (w=[109,97,107,101,114])=false/\decide (w=[107,101,121])=false/\decide (w=[100,114,111,112])=true)∨
  (decide (w=[109,97,107,101,114])=false/\decide (w=[107,101,121])=false/\decide (w=[100,114,111,112])=false/\decide (w=[102,105,110,100])=true):=by
 rcases h with rfl|rfl|rfl|rfl<;>decide
theorem zn (d:Dk) (hk:k_ d=true) (l:lU) (hl:l.length<=1000000):Fn pG 55 [mV d,eS l] false (· = .aX [mV (ly d l).1,eS (ly d l).2]):=by
 refine Fn.bY 54 [.cell 4 26,.tmp 5] func55 (hv:= ?_);have hp:=Fn.shared (y1 l (by omega));have hw:=vM (s:=l);rcases hb:(d_ l).2.2 with _|_
 . have hR:ly d l=(d,sZ 6):=(by unfold ly;rw [rA hb]);rw [hR];have hi6:=bS (v:=6) (by unfold jx;omega);rw [hb] at hp;have h6:=cC 6 (by omega);generalize d_ l=p at*;simp only [sZ];simp -dsimp -implicitDefEqProofs only [go_sem];refine au hp (by simp [ax,ao,aF]) ?_;simp -dsimp -implicitDefEqProofs only [go_sem];refine aj.draw mixed rfl ?_;simp -dsimp -implicitDefEqProofs only [go_sem];refine an h6 ?_;simp -dsimp -implicitDefEqProofs only [go_sem];((with_reducible and_intros);all_goals try first|omega|exact rfl)
 obtain ⟨c,hco,hcm⟩:=zk hb;have hR:ly d l=VC d c:=by unfold ly;rw [hco]
 rw [hR];rw [hb] at hp;have DI:=λh=>GN d hk hcm h λw hm=>by have:=hw w hm;omega
 have zX:=λh=>Qx d hk hcm h λw hm=>by have:=hw w hm;omega
 obtain ⟨w0,g0,hhd⟩:=hcm.head;have hcc:=Ct d c;have hca:=zm [] d c;have ht:=M0 [45] [] d c;rw [MZ [45] [] d c] at zX ht;have hlen:0<(d_ l).1.length:=(List.getElem?_eq_some_iff.1 g0).1;clear hcm hco hR;generalize d_ l=p at*;obtain ⟨ws,ns,b⟩:=p;simp only at hp DI zX g0 hb hlen;subst hb;clear hw;unfold VC;rcases hhd with ⟨hch,hwd⟩|⟨hch,n1,n2,n3,n4⟩
 . have hq:=DI hch;rw [if_pos hch];clear DI zX ht hca;generalize dQ d c=q at*;by_cases hc:q.2=0
   . rw [if_pos hc];rw [hc] at hq;have e0:((0:Int) != 0)=false:=rfl;rcases nS hwd with w1|⟨w1,w2⟩|⟨w1,w2,w3⟩|⟨w1,w2,w3,w4⟩
     all_goals (
      simp -dsimp -implicitDefEqProofs only [go_sem];refine au hp (by simp [ax,ao,aF]) ?_;simp -dsimp -implicitDefEqProofs only [go_sem, *];((with_reducible and_intros);all_goals try omega);refine au hq (by simp [ax,ao,aq,aF]) ?_
      simp -dsimp -implicitDefEqProofs only [go_sem, *])
   rw [if_neg hc];have e0:(q.2 != 0)=true:=bne_iff_ne.2 hc;have hd:=cC q.2 (by omega);have hi6:=bS (v:=q.2) (by unfold jx;omega);simp only [sZ];rcases nS hwd with w1|⟨w1,w2⟩|⟨w1,w2,w3⟩|⟨w1,w2,w3,w4⟩
   all_goals (
    simp -dsimp -implicitDefEqProofs only [go_sem];refine au hp (by simp [ax,ao,aF]) ?_;simp -dsimp -implicitDefEqProofs only [go_sem, *];((with_reducible and_intros);all_goals try omega);refine au hq (by simp [ax,ao,aq,aF]) ?_;simp -dsimp -implicitDefEqProofs only [go_sem, *];refine aj.draw mixed rfl ?_;simp -dsimp -implicitDefEqProofs only [go_sem];refine an hd ?_;simp -dsimp -implicitDefEqProofs only [go_sem]
    ((with_reducible and_intros);all_goals try first|omega|exact rfl))
 have hq:=zX hch;rw [if_neg (by rw [hch];simp)];have w1:decide (w0=[109,97,107,101,114])=false:=dF n1;have w2:decide (w0=[107,101,121])=false:=dF n2;have w3:decide (w0=[100,114,111,112])=false:=dF n3;have w4:decide (w0=[102,105,110,100])=false:=dF n4;clear DI zX hcc n1 n2 n3 n4;generalize b8 [45] d c=q at*;generalize b8 [] d c=q' at*;by_cases hc:q'.2=0
 . rw [if_pos hc];rw [ht hc] at hq;rw [hc] at hq;have e0:((0:Int) != 0)=false:=rfl;simp -dsimp -implicitDefEqProofs only [go_sem];refine au hp (by simp [ax,ao,aF]) ?_;simp -dsimp -implicitDefEqProofs only [go_sem,g0,w1,w2,w3,w4];((with_reducible and_intros);all_goals try omega);refine aa hq ?_;simp -dsimp -implicitDefEqProofs only [go_sem,e0]
 rw [if_neg hc];have e0:(q'.2 != 0)=true:=bne_iff_ne.2 hc;have hd:=cC q'.2 (by omega);have hi6:=bS (v:=q'.2) (by unfold jx;omega);simp only [sZ];simp -dsimp -implicitDefEqProofs only [go_sem];refine au hp (by simp [ax,ao,aF]) ?_;simp -dsimp -implicitDefEqProofs only [go_sem,g0,w1,w2,w3,w4];((with_reducible and_intros);all_goals try omega);refine aa hq ?_;simp -dsimp -implicitDefEqProofs only [go_sem,e0];refine aj.draw mixed rfl ?_;simp -dsimp -implicitDefEqProofs only [go_sem];refine an hd ?_;simp -dsimp -implicitDefEqProofs only [go_sem];((with_reducible and_intros);all_goals try first|omega|exact rfl)
noncomputable def Qy (s:lU):Dk × Int:=if (decide (s.length<=3000)&&decide ((cS s).length<=50))=true then ((ew (cS s)).1,0) else (⟨⟨0,0,0,0,0⟩,[],[]⟩,3)
noncomputable def gA (s:lU):List lU × Int:=if (decide (s.length<=3000)&&decide ((cS s).length<=50))=true then ((ew (cS s)).2,0) else ([],3)
theorem rB:Fn pG 40 [] false (· =mV Nh):=by refine Fn.y5 (Fn.mono (post:=λx=>tv x (mV Nh)) (Fn.bY 3 [.cell 0 26] func40 (hv:= ?_)) λx hx=>⟨_,hx,rfl⟩);unfold Nh;simp -dsimp -implicitDefEqProofs only [go_sem]
theorem Qz (ls:List lU) (h:ls.length<=1000000) (hl:∀l∈ls,l.length<=1000000):Fn pG 29 [lP ls] false (· = .aX [mV (ew ls).1,lP (ew ls).2]):=by
 refine Fn.bY 33 [.cell 2 26,.tmp 3] func29 (hv:= ?_);have h0:=rB;have hln:∀i,i<=ls.length->(ew (ls.take i)).2.length=i:=λi hi=>by rw [wu];simp;omega
 simp -dsimp -implicitDefEqProofs only [go_sem];refine au h0 (by exact True.intro) ?_;simp -dsimp -implicitDefEqProofs only [go_sem]
 refine aj.up [0,2,4] [7,13,23,29,30] [10,4] ls.length (λ_=>True) (λi=>[(6,eI i),(5,.ref 10 0 0 i)])
  (λi=>[(10,.row 0 ⟨1,false⟩ true ((ew (ls.take i)).2.map eS)),(4,.box 0 [eI (ew (ls.take i)).1.m.ae,eI (ew (ls.take i)).1.m.ak,eI (ew (ls.take i)).1.m.step,eI (ew (ls.take i)).1.m.same,eI (ew (ls.take i)).1.m.least,aQ (ew (ls.take i)).1.a,aQ (ew (ls.take i)).1.k])]) trivial ?_ rfl (λi hi _=> ?_) (λ_=> ?_)
 . rw [bd,zl];unfold Nh;simp -dsimp -implicitDefEqProofs only [go_sem]
 . have gi:=get_some hi;have li:=aE hi;have cG:=zn (ew (ls.take i)).1 (Ds ls i) ls[i] (hl _ (uq4 hi));have hs:=uh hi;unfold vK at hs;have hl1:=hln i (by omega);rw [hs];clear hs hln;generalize ew (ls.take i)=p at*;generalize ls[i]=l at*;generalize ly p.1 l=r at*;have tP:(p.2.map eS).take i=p.2.map eS:=b6 (by simp;omega);have eM:(p.2++[r.2]).map eS=p.2.map eS++[eS r.2]:=(by simp);rw [eM];simp -dsimp -implicitDefEqProofs only [go_sem,li];refine aj.draw mixed rfl ?_;simp -dsimp -implicitDefEqProofs only [go_sem,gi];((with_reducible and_intros);all_goals try omega);refine aH cG (by simp [ax,ao,aq,aF]) ?_;simp -dsimp -implicitDefEqProofs only [go_sem];((with_reducible and_intros);all_goals try first|omega|(refine ⟨?_,?_⟩<;>omega)|exact rfl);all_goals try simp -dsimp -implicitDefEqProofs only [go_sem,tP]
 rw [List.take_length];have hl1:=hln ls.length (Nat.le_refl _);rw [List.take_length] at hl1;generalize ew ls=p at*;have tP:(p.2.map eS).take ls.length=p.2.map eS:=b6 (by simp;omega);simp -dsimp -implicitDefEqProofs only [go_sem,ay,tP];(all_goals try omega)
theorem qC (s:lU) (h:s.length<=1048576):Fn pG 15 [eS s] false (· = .aX [lP (gA s).1,eI (gA s).2]):=by
 refine Fn.y5 (Fn.mono (post:=λx=>tv x (.aX [lP (gA s).1,eI (gA s).2])) (Fn.bY 16 [.tmp 2,.tmp 3] func15 (hv:= ?_)) λx hx=>⟨_,hx,rfl⟩);have hf:=MJ s h;have hll:=Fn.shared (y4 s h);have hb:=y3 s;have ha:=Qz (cS s);unfold gA;rcases pr:(decide (s.length<=3000)&&decide ((cS s).length<=50)) with _|_
 . rw [pr] at hf;rw [if_neg (by simp)];simp -dsimp -implicitDefEqProofs only [go_sem];refine aa hf ?_;simp -dsimp -implicitDefEqProofs only [go_sem]
 rw [pr] at hf;rw [if_pos rfl];simp only [uq0,decide_eq_true_eq] at pr;have ha:=ha (by omega) λl hl=>by have:=hb.2 l hl;omega
 generalize cS s=ls at*;generalize ew ls=p at*;simp -dsimp -implicitDefEqProofs only [go_sem];refine aa hf ?_;simp -dsimp -implicitDefEqProofs only [go_sem];refine au hll (by simp [ax,ao,aF]) ?_;simp -dsimp -implicitDefEqProofs only [go_sem];refine au ha (by simp [ax,ao,aF]) ?_;simp -dsimp -implicitDefEqProofs only [go_sem]
theorem M4 (d:Dk) (c:Dr):(dQ d c).2≠0->(dQ d c).1=d:=by
 cases c<;>simp only [dQ]
 . split
   . intro h;exact absurd rfl h
   intro _;rfl
 . unfold v_;split
   . split
     . split
       . intro h;exact absurd rfl h
       intro _;rfl
     intro _;rfl
   intro _;rfl
 . split
   . intro h;exact absurd rfl h
   intro _;rfl
 . split
   . intro h;exact absurd rfl h
   intro _;rfl
 all_goals (intro h;exact absurd rfl h)
theorem QA (d:Dk) (hk:k_ d=true) {ws:List lU} {ns:lI} {c:Dr} (h:mU ws ns c) (hc:zj c=true) (hl:∀w∈ws,w.length<=1000000) (va vk:Nat):
 fL pG 84 (zR va vk d) [.ptr 1900000006 0 0 0,lP ws,aP ns] (λr m'=>r=eI (dQ d c).2/\m'=zR (va+1) (vk+1) (dQ d c).1):=by
 cases h with
 |la=>exact GJ d hk ..
 |key x y=>exact M3 d hk x y (hl x (by simp)) (hl y (by simp)) va vk
 |drop x n hn=>exact I5 d hk x n hn va vk
 |find x n hn=>exact I6 d hk x n hn va vk
 |_=>cases hc
theorem Xf (d:Dk) (hk:k_ d=true) {ws:List lU} {ns:lI} {c:Dr} (h:mU ws ns c) (hc:zj c=false) (hl:∀w∈ws,w.length<=1000000):
 Fn pG 85 [.bo ⟨7,true⟩ [mV d] 0 0,lP ws,aP ns] true (· = .aX [eS (b8 [] d c).1,eI (b8 [] d c).2]):=by
 cases h with
 |Ni=>exact wv d iZ .Ni (by decide) (I3 d hk)
 |cj=>exact wv d e_ .cj (by decide) (zS d hk)
 |count=>exact wv d fQ .count (by decide) (Dt d hk)
 |j7=>exact wv d dm .j7 (by decide) (zT d hk)
 |pj=>exact GH d hk
 |lock x n hn=>exact I4 d hk x n hn
 |opens x=>exact GG d hk x (by have:=hl x (by simp);omega)
 |pn x y n s hn=>exact GI d hk x y n s hn
 |_=>cases hc
theorem M5 (d:Dk) (hk:k_ d=true) (l:lU) (hl:l.length<=1000000) (va vk:Nat):fL pG 60 (zR va vk d) [.ptr 1900000006 0 0 0,eS l] (λr m'=>r=eS (ly d l).2/\m'=zR (va+1) (vk+1) (ly d l).1):=by
 refine fL.dk (fL.tL 45 [.tmp 4] func60 rfl rfl rfl rfl rfl (oT rfl) (by decide) ?_);have hp:=Fn.shared (y2 l (by omega));have hw:=vM (s:=l);rw [gV];have t1:(d.a.map aP).take d.a.length=d.a.map aP:=b6 (by simp);have t2:(d.k.map aP).take d.k.length=d.k.map aP:=b6 (by simp);rcases hb:(d_ l).2.2 with _|_
 . have hR:ly d l=(d,sZ 6):=(by unfold ly;rw [rA hb]);rw [hR];have hi6:=bS (v:=6) (by unfold jx;omega);rw [hb] at hp;have h6:=k6 (n:=6) (by unfold jx;omega);generalize d_ l=p at*;simp only [sZ];simp -dsimp -implicitDefEqProofs only [go_sem,uq6];refine au hp (by simp [ax,ao,aF]) ?_;simp -dsimp -implicitDefEqProofs only [go_sem];refine aa h6 ?_;simp -dsimp -implicitDefEqProofs only [go_sem];((with_reducible and_intros);all_goals try omega);((refine pq (oa:=some 1900000500) (oc:=some 1900000501) rfl ?_ (dZ.mk ?_ rfl) (dZ.mk ?_ rfl) ?_ ?_ ?_ ⟨rfl,rfl,?_,?_⟩);all_goals first|exact rfl|(simp;done)|skip)
 obtain ⟨c,hco,hcm⟩:=zk hb;have hR:ly d l=VC d c:=by unfold ly;rw [hco]
 rw [hR];rw [hb] at hp;have DI:=λh=>QA d hk hcm h (λw hm=>by have:=hw w hm;omega) va vk;have zX:=λh=>Xf d hk hcm h λw hm=>by have:=hw w hm;omega
 obtain ⟨w0,g0,hhd⟩:=hcm.head;have hcc:=Ct d c;have hca:=zm [] d c;have hlen:0<(d_ l).1.length:=(List.getElem?_eq_some_iff.1 g0).1;clear hcm hco hR;generalize d_ l=p at*;obtain ⟨ws,ns,b⟩:=p;simp only at hp DI zX g0 hb hlen;subst hb;clear hw;unfold VC;rcases hhd with ⟨hch,hwd⟩|⟨hch,n1,n2,n3,n4⟩
 . have hq:=DI hch;rw [if_pos hch];clear DI zX hca;have hd':(dQ d c).2≠0->(dQ d c).1=d:=M4 d c;generalize dQ d c=q at*;by_cases hc:q.2=0
   . rw [if_pos hc];rw [hc] at hq;have e0:((0:Int) != 0)=false:=rfl;rcases nS hwd with w1|⟨w1,w2⟩|⟨w1,w2,w3⟩|⟨w1,w2,w3,w4⟩
     all_goals (
      simp -dsimp -implicitDefEqProofs only [go_sem,uq6];refine au hp (by simp [ax,ao,aF]) ?_;simp -dsimp -implicitDefEqProofs only [go_sem, *];((with_reducible and_intros);all_goals try omega);refine cX hq ⟨⟨?_,?_⟩,?_,?_⟩ ?_
      . simp -dsimp -implicitDefEqProofs only [go_sem,kS]
      . simp -dsimp -implicitDefEqProofs only [go_sem,gV,uq6];all_goals try (simp;done)
      . simp -dsimp -implicitDefEqProofs only [go_sem,gV,uq6]
      . simp -dsimp -implicitDefEqProofs only [go_sem,kS];all_goals try (simp;done)
      rintro r m' ⟨hr,hm'⟩;rw [hr,hm'];simp only [zR,gV];simp -dsimp -implicitDefEqProofs only [go_sem,uq6,e0]
      ((refine pq (oa:=some 1900000500) (oc:=some 1900000501) rfl ?_ (dZ.mk ?_ rfl) (dZ.mk ?_ rfl) ?_ ?_ ?_ ⟨rfl,rfl,?_,?_⟩);all_goals first|exact rfl|(simp;done)|skip))
   rw [if_neg hc];rw [hd' hc] at hq;have e0:(q.2 != 0)=true:=bne_iff_ne.2 hc;have hd:=k6 (n:=q.2) (by unfold jx;omega);have hi6:=bS (v:=q.2) (by unfold jx;omega);simp only [sZ];rcases nS hwd with w1|⟨w1,w2⟩|⟨w1,w2,w3⟩|⟨w1,w2,w3,w4⟩
   all_goals (
    simp -dsimp -implicitDefEqProofs only [go_sem,uq6];refine au hp (by simp [ax,ao,aF]) ?_;simp -dsimp -implicitDefEqProofs only [go_sem, *];((with_reducible and_intros);all_goals try omega);refine cX hq ⟨⟨?_,?_⟩,?_,?_⟩ ?_
    . simp -dsimp -implicitDefEqProofs only [go_sem,kS]
    . simp -dsimp -implicitDefEqProofs only [go_sem,gV,uq6];all_goals try (simp;done)
    . simp -dsimp -implicitDefEqProofs only [go_sem,gV,uq6]
    . simp -dsimp -implicitDefEqProofs only [go_sem,kS];all_goals try (simp;done)
    rintro r m' ⟨hr,hm'⟩;rw [hr,hm'];simp only [zR,gV];simp -dsimp -implicitDefEqProofs only [go_sem,uq6,e0];refine aa hd ?_;simp -dsimp -implicitDefEqProofs only [go_sem];((with_reducible and_intros);all_goals try omega)
    ((refine pq (oa:=some 1900000500) (oc:=some 1900000501) rfl ?_ (dZ.mk ?_ rfl) (dZ.mk ?_ rfl) ?_ ?_ ?_ ⟨rfl,rfl,?_,?_⟩);all_goals first|exact rfl|(simp;done)|skip))
 have hq:=zX hch;rw [if_neg (by rw [hch];simp)];have w1:decide (w0=[109,97,107,101,114])=false:=dF n1;have w2:decide (w0=[107,101,121])=false:=dF n2;have w3:decide (w0=[100,114,111,112])=false:=dF n3;have w4:decide (w0=[102,105,110,100])=false:=dF n4;clear DI zX hcc n1 n2 n3 n4;generalize b8 [] d c=q' at*;by_cases hc:q'.2=0
 . rw [if_pos hc];rw [hc] at hq;have e0:((0:Int) != 0)=false:=rfl;simp -dsimp -implicitDefEqProofs only [go_sem,uq6];refine au hp (by simp [ax,ao,aF]) ?_;simp -dsimp -implicitDefEqProofs only [go_sem,g0,w1,w2,w3,w4];((with_reducible and_intros);all_goals try omega);refine yx (r:=.aX [eS q'.1,eI 0]) (cells:=[eI d.m.ae,eI d.m.ak,eI d.m.step,eI d.m.same,eI d.m.least,aQ d.a,aQ d.k]) ?_ rfl ?_ ?_ ?_
   . exact hq
   . simp -dsimp -implicitDefEqProofs only [go_sem,t1,t2]
   . simp [aq,ao]
   simp -dsimp -implicitDefEqProofs only [go_sem,e0];((refine pq (oa:=some 1900000500) (oc:=some 1900000501) rfl ?_ (dZ.mk ?_ rfl) (dZ.mk ?_ rfl) ?_ ?_ ?_ ⟨rfl,rfl,?_,?_⟩);all_goals first|exact rfl|(simp;done)|skip)
 rw [if_neg hc];have e0:(q'.2 != 0)=true:=bne_iff_ne.2 hc;have hd:=k6 (n:=q'.2) (by unfold jx;omega);have hi6:=bS (v:=q'.2) (by unfold jx;omega);simp only [sZ];simp -dsimp -implicitDefEqProofs only [go_sem,uq6];refine au hp (by simp [ax,ao,aF]) ?_;simp -dsimp -implicitDefEqProofs only [go_sem,g0,w1,w2,w3,w4];((with_reducible and_intros);all_goals try omega);refine yx (r:=.aX [eS q'.1,eI q'.2]) (cells:=[eI d.m.ae,eI d.m.ak,eI d.m.step,eI d.m.same,eI d.m.least,aQ d.a,aQ d.k]) ?_ rfl ?_ ?_ ?_
 . exact hq
 . simp -dsimp -implicitDefEqProofs only [go_sem,t1,t2]
 . simp [aq,ao]
 simp -dsimp -implicitDefEqProofs only [go_sem,e0];refine aa hd ?_;simp -dsimp -implicitDefEqProofs only [go_sem];((with_reducible and_intros);all_goals try omega);((refine pq (oa:=some 1900000500) (oc:=some 1900000501) rfl ?_ (dZ.mk ?_ rfl) (dZ.mk ?_ rfl) ?_ ?_ ?_ ⟨rfl,rfl,?_,?_⟩);all_goals first|exact rfl|(simp;done)|skip)
theorem M6 (s:lU):(k9 s).length<=s.length:=by
 unfold k9;split
 . simp
 exact Nat.le_refl _
theorem Xg (s:lU) (h:s.length<=1048576):Fn pG 32 [eS s] true (· = .aX [mV (Qy s).1,lP (gA s).1,eI (gA s).2]):=by
 refine Fn.av 41 [.cell 2 26,.tmp 3,.tmp 4] func32 (hv:= ?_);have ht:=Dg s h;have hsp:=Fn.shared (JW (k9 s) 10 (by have:=M6 s;omega));have hls:=rp s;have hb:=y3 s;unfold Qy gA;by_cases h0:s=[]
 . subst h0;rw [if_pos rfl] at hls;have e1:(decide (([]:lU).length<=3000)&&decide ((cS []).length<=50))=true:=(by rw [←hls];rfl);rw [if_pos e1,if_pos e1,←hls];clear e1 hls hb;have d0:decide (([]:lU)=[])=true:=rfl;have d1:decide ((0:Int)>3000)=false:=rfl;have d2:decide ((0:Int)>50)=false:=rfl;have et:k9 []=[]:=rfl;rw [et] at ht hsp;have en:ew []=(Nh,[]):=rfl;rw [en];simp -dsimp -implicitDefEqProofs only [go_sem];refine aa ht ?_;simp -dsimp -implicitDefEqProofs only [go_sem];refine au hsp (by simp [ax,ao,aF]) ?_;simp -dsimp -implicitDefEqProofs only [go_sem,d1,d2,uq7];refine aj.up [2,6,27,28] [35,36,37] [26,6,500,501] 0 (λ_=>True) (λ_=>[(29,eI 0),(7,.ref 26 0 0 0)]) (λ_=>[(26,.row 0 ⟨1,false⟩ true []),(6,.box 0 [eI 4,eI 5,eI 3,eI 2,eI 2,.ref 500 0 0 0,.ref 501 0 0 0]),(500,.row 0 ⟨1,false⟩ true []),(501,.row 0 ⟨1,false⟩ true [])]) trivial ?_ rfl (λi hi _=>absurd hi (Nat.not_lt_zero _)) (λ_=> ?_)
   . simp -dsimp -implicitDefEqProofs only [go_sem]
   have dz:decide ((0:Int)<0)=false:=rfl;unfold Nh;simp -dsimp -implicitDefEqProofs only [go_sem,dz,List.take_nil];((with_reducible and_intros);all_goals try exact rfl);all_goals (first|(simp;done)|skip)
 rw [if_neg h0] at hls;rw [hls] at hsp;have d0:decide (s=[])=false:=dF h0;have l0:¬s.length=0:=λe=>h0 (List.eq_nil_of_length_eq_zero e);generalize hL:cS s=ls at*;rcases d1:decide ((s.length:Int)>3000) with _|_
 . have d1':=of_decide_eq_false d1;rcases d2:decide ((ls.length:Int)>50) with _|_
   . have d2':=of_decide_eq_false d2;have e1:(decide (s.length<=3000)&&decide (ls.length<=50))=true:=(by simp only [uq0,decide_eq_true_eq];omega);rw [if_pos e1,if_pos e1];simp -dsimp -implicitDefEqProofs only [go_sem];refine aa ht ?_;simp -dsimp -implicitDefEqProofs only [go_sem];refine au hsp (by simp [ax,ao,aF]) ?_;simp -dsimp -implicitDefEqProofs only [go_sem,d0,d1,d2]
     refine aj.up [2,6,27,28] [35,36,37] [26,6,500,501] ls.length (λ_=>True) (λi=>[(29,eI i),(7,.ref 26 0 0 i)])
      (λi=>[(26,.row 0 ⟨1,false⟩ true ((ew (ls.take i)).2.map eS)),(6,.box 0 [eI (ew (ls.take i)).1.m.ae,eI (ew (ls.take i)).1.m.ak,eI (ew (ls.take i)).1.m.step,eI (ew (ls.take i)).1.m.same,eI (ew (ls.take i)).1.m.least,.ref 500 0 0 (ew (ls.take i)).1.a.length,.ref 501 0 0 (ew (ls.take i)).1.k.length]),
        (500,.row 0 ⟨1,false⟩ true ((ew (ls.take i)).1.a.map aP)),(501,.row 0 ⟨1,false⟩ true ((ew (ls.take i)).1.k.map aP))]) trivial ?_ rfl (λi hi _=> ?_) (λ_=> ?_)
     . rw [bd,zl];unfold Nh;simp -dsimp -implicitDefEqProofs only [go_sem,uq7,bj]
     . have gi:=get_some hi;have li:=aE hi;have cG:=M5 (ew (ls.take i)).1 (Ds ls i) ls[i] (by have:=hb.2 _ (uq4 hi);omega) 0 0;have hst:=uh hi;unfold vK at hst;have hl1:(ew (ls.take i)).2.length=i:=(by rw [wu];simp;omega);rw [hst];clear hst;generalize ew (ls.take i)=p at*;generalize ls[i]=l at*;generalize ly p.1 l=r at*;have tP:(p.2.map eS).take i=p.2.map eS:=b6 (by simp;omega);have eM:(p.2++[r.2]).map eS=p.2.map eS++[eS r.2]:=(by simp);rw [eM];simp only [zR,gV] at cG;simp -dsimp -implicitDefEqProofs only [go_sem,gi,li];((with_reducible and_intros);all_goals try omega);refine jk 1900000000 cG ⟨?_,?_⟩ ⟨⟨?_,?_⟩,?_,?_⟩ ?_
       . simp -dsimp -implicitDefEqProofs only [go_sem]
       . simp -dsimp -implicitDefEqProofs only [go_sem]
       . simp -dsimp -implicitDefEqProofs only [go_sem]
       . simp -dsimp -implicitDefEqProofs only [go_sem];all_goals try (simp;done)
       . simp -dsimp -implicitDefEqProofs only [go_sem,uq6]
       . simp -dsimp -implicitDefEqProofs only [go_sem];all_goals try (simp;done)
       rintro r' m' ⟨hr,hm'⟩;rw [hr,hm'];simp -dsimp -implicitDefEqProofs only [go_sem,uq6];((with_reducible and_intros);all_goals try first|omega|(refine ⟨?_,?_⟩<;>omega)|exact rfl);all_goals first|(rw [tP];done)|(first|omega|(refine ⟨?_,?_⟩<;>omega)|exact rfl|(simp;done)|skip)
     rw [List.take_length];have hl1:(ew ls).2.length=ls.length:=wu ls;generalize ew ls=p at*;have tP:(p.2.map eS).take ls.length=p.2.map eS:=b6 (by simp;omega);have tA:(p.1.a.map aP).take p.1.a.length=p.1.a.map aP:=b6 (by simp);have tK:(p.1.k.map aP).take p.1.k.length=p.1.k.map aP:=b6 (by simp);simp -dsimp -implicitDefEqProofs only [go_sem,ay,tP,tA,tK];((with_reducible and_intros);all_goals try omega);all_goals (first|(simp;done)|skip)
   have d2':=oT d2;have e1:¬(decide (s.length<=3000)&&decide (ls.length<=50))=true:=(by simp only [uq0,decide_eq_true_eq];omega);rw [if_neg e1,if_neg e1];simp -dsimp -implicitDefEqProofs only [go_sem];refine aa ht ?_;simp -dsimp -implicitDefEqProofs only [go_sem];refine au hsp (by simp [ax,ao,aF]) ?_;simp -dsimp -implicitDefEqProofs only [go_sem,d0,d1,d2]
 have d1':=oT d1;have e1:¬(decide (s.length<=3000)&&decide (ls.length<=50))=true:=by simp only [uq0,decide_eq_true_eq];omega
 rw [if_neg e1,if_neg e1];simp -dsimp -implicitDefEqProofs only [go_sem];refine aa ht ?_;simp -dsimp -implicitDefEqProofs only [go_sem];refine au hsp (by simp [ax,ao,aF]) ?_;simp -dsimp -implicitDefEqProofs only [go_sem,d0,d1]
theorem qD (s:lU) (h:s.length<=1048576):Fn pG 14 [eS s] true (· = .aX [lP (gA s).1,eI (gA s).2]):=by refine Fn.av 15 [.tmp 2,.tmp 3] func14 (hv:= ?_);have hr:=Xg s h;generalize Qy s=D at*;generalize gA s=O at*;have tO:(O.1.map eS).take O.1.length=O.1.map eS:=b6 (by simp);simp -dsimp -implicitDefEqProofs only [go_sem];refine aa hr ?_;simp -dsimp -implicitDefEqProofs only [go_sem,tO,uq6];all_goals (first|(simp;done)|skip)
theorem S8 (xs:List lU) (h:xs.length<=9223372036854775807):Fn pG 25 [lP xs,lP xs] true (· =eB true):=by
 refine Fn.av 26 [.tmp 4] func25 (hv:= ?_);have hne:((xs.length:Int) != (xs.length:Int))=false:=by simp
 simp -dsimp -implicitDefEqProofs only [go_sem,hne];refine aj.up [0,1] [13] [] xs.length (λ_=>True) (λi=>[(5,eI i)]) (λ_=>[]) trivial ?_ rfl (λi hi _=> ?_) (λ_=> ?_)
 . simp -dsimp -implicitDefEqProofs only [go_sem]
 . have gi:=get_some hi;generalize xs[i]=x at*;have hx:decide (x=x)=true:=dT rfl;simp -dsimp -implicitDefEqProofs only [go_sem,aE hi];refine aj.draw mixed rfl ?_;simp -dsimp -implicitDefEqProofs only [go_sem,gi];((with_reducible and_intros);all_goals try first|omega|(refine ⟨?_,?_⟩<;>omega)|exact rfl)
 simp -dsimp -implicitDefEqProofs only [go_sem,ay]
theorem s0 (xs:List lU) (h:xs.length<=9223372036854775807):Fn pG 16 [lP xs,lP xs] true (· =eB true):=by
 refine Fn.av 26 [.tmp 4] func16 (hv:= ?_);have hne:((xs.length:Int) != (xs.length:Int))=false:=by simp
 simp -dsimp -implicitDefEqProofs only [go_sem,hne];refine aj.up [0,1] [13] [] xs.length (λ_=>True) (λi=>[(5,eI i)]) (λ_=>[]) trivial ?_ rfl (λi hi _=> ?_) (λ_=> ?_)
 . simp -dsimp -implicitDefEqProofs only [go_sem]
 . have gi:=get_some hi;generalize xs[i]=x at*;have hx:decide (x=x)=true:=dT rfl;simp -dsimp -implicitDefEqProofs only [go_sem,aE hi];refine aj.draw mixed rfl ?_;simp -dsimp -implicitDefEqProofs only [go_sem,gi];((with_reducible and_intros);all_goals try first|omega|(refine ⟨?_,?_⟩<;>omega)|exact rfl)
 simp -dsimp -implicitDefEqProofs only [go_sem,ay]
theorem Cu (s:lU):(gA s).1.length<=50:=by
 unfold gA;split
 . rename_i h;simp only [uq0,decide_eq_true_eq] at h;simp only [wu];exact h.2
 simp
structure ZA (d:Dk):Prop where
 al:d.a.length<=10
 ar:∀x∈d.a,x.length<=12
 kl:d.k.length<=10
 kn:∀x∈d.k,x.length<=6
theorem GQ (xs:lI) (h:xs.length<=5) (hx:∀x∈xs,0<=x/\x<=1000):Fn pG 64 [aP xs] true (λx=>∃b:lU,b.length<=200/\x=eS b):=by
 refine Fn.nil ?_;refine Fn.cW 23 [.tmp 2] func64 (hv:= ?_);simp -dsimp -implicitDefEqProofs only [go_sem];refine aj.lp [0] [7,20] [] (λx:Nat × lU=>x.1<=xs.length/\x.2.length<=x.1*30) (λx=>[(4,eI x.1),(3,eS x.2)]) (λ_=>[]) (λx=>xs.length-x.1) (0,[]) ⟨Nat.zero_le _,Nat.le_refl _⟩ ?_ rfl (λx hx2=> ?_)
 . simp -dsimp -implicitDefEqProofs only [go_sem]
 obtain ⟨i,out⟩:=x;obtain ⟨x1,x2⟩:=hx2;simp only at x1 x2 ⊢;by_cases hi:i<xs.length
 . have gi:=get_some hi;have li:=aE hi;have hd:=hx _ (uq4 hi);generalize xs[i]=y at*;have c1:=cC y (by omega);have l1:=bS (v:=y) (by unfold jx;omega);obtain ⟨b0,hb0⟩:∃b,decide ((i:Int)>0)=b:=⟨_,rfl⟩;cases b0
   all_goals
    simp -dsimp -implicitDefEqProofs only [go_sem,li,gi,hb0];((with_reducible and_intros);all_goals try omega);refine aa c1 ?_;simp -dsimp -implicitDefEqProofs only [go_sem];((with_reducible and_intros);all_goals try first|omega|(refine ⟨?_,?_⟩<;>omega));all_goals first|(refine ⟨(i+1,_),⟨by omega,?_⟩,by simp only;omega,?_,rfl⟩;rotate_left;(exact rfl);(simp;omega))|skip
 have hge:decide ((i:Int)<(xs.length:Int))=false:=dF (by omega);simp -dsimp -implicitDefEqProofs only [go_sem,hge];all_goals first|(exact ⟨_,rfl,out,by omega,rfl⟩)|skip
def Xh (bs:lU) (v:Nat) (x:AV) (io:List bc):Prop:=∃(t:lU) (s:Src),gq s/\t.length<=300/\x=eS t/\io=[mH v bs s]
theorem s4 (v:Nat) (bs:lU) (s:Src) (m:aL) (doors:Int) (h:gq s) (hl:bs.length<=4096) (hm:aW m=true) (hd:1<=doors/\doors<=3):
 mb pG 39 [mH v bs s] [.ptr 1000000000 v 0 0,ky m,eI doors] (Xh bs v):=by
 unfold Xh;refine mb.cW 100 [.tmp 6] func39 (hv:= ?_);have hn:=fh bs 16 h;have q16:=λv=>bU v bs 16 s h hl;generalize nx bs 16 s=a at*;obtain ⟨k,s1⟩:=a;obtain ⟨k0,_,k16,hs1⟩:=hn;have k16:=k16 (by omega);simp only at k0 k16 hs1;have s8:=aI hm;have Ke:=λv=>B0 v bs s1 m hs1 hm hl;have hct:=mS (bs:=bs) (D:=m.ak) hs1 (by omega) m.ae.toNat;obtain ⟨g1,g2,g3⟩:=hct;have hk:=FX hm (c:=(bJ bs m.ak s1 m.ae.toNat).1) (by omega) g3;obtain ⟨f1,_,_,f4⟩:=hk;have hkt:=pZ (n_ m (bJ bs m.ak s1 m.ae.toNat).1) (by omega) λx hx=>by have:=f4 x hx;omega
 have hkl:(k7 (n_ m (bJ bs m.ak s1 m.ae.toNat).1)).length<=8:=by rw [k7,uq6];omega
 have XI:k=0\/k=1\/k=2\/k=3\/k=4\/k=5\/k=6\/k=7\/k=8\/k=9\/k=10\/11<=k:=by omega
 rcases XI with rfl|rfl|rfl|rfl|rfl|rfl|rfl|rfl|rfl|rfl|rfl|h11
 . clear k0 k16;have n1:=fh bs 3 hs1;have q1:=λv=>bU v bs 3 s1 hs1 hl;have b1:=n1.2.2.1 (by omega);generalize nx bs 3 s1=x1 at*;have n2:=fh bs 4 n1.2.2.2;have q2:=λv=>bU v bs 4 x1.2 n1.2.2.2 hl;have b2:=n2.2.2.1 (by omega);generalize nx bs 4 x1.2=x2 at*;have n3:=fh bs 3 n2.2.2.2;have q3:=λv=>bU v bs 3 x2.2 n2.2.2.2 hl;have b3:=n3.2.2.1 (by omega);generalize nx bs 3 x2.2=x3 at*;have n4:=fh bs 3 n3.2.2.2;have q4:=λv=>bU v bs 3 x3.2 n3.2.2.2 hl;have b4:=n4.2.2.1 (by omega);generalize nx bs 3 x3.2=x4 at*;have n5:=fh bs 3 n4.2.2.2;have q5:=λv=>bU v bs 3 x4.2 n4.2.2.2 hl;have b5:=n5.2.2.1 (by omega);generalize nx bs 3 x4.2=x5 at*;have n6:=n5.2.2.2
   have hbl:=GQ [2+x1.1,2+x2.1,1+x3.1,1+x4.1,1+x5.1] (by simp) (λy hy=>by
    simp only [List.mem_cons,List.not_mem_nil,or_false] at hy
    rcases hy with rfl|rfl|rfl|rfl|rfl<;>omega)
   simp only [aP,uq9,bj] at hbl;simp -dsimp -implicitDefEqProofs only [go_sem];(refine aU [1000000000] ?_;simp -dsimp -implicitDefEqProofs only [go_sem];refine aO (q16 _) ?_;simp -dsimp -implicitDefEqProofs only [go_sem]);(refine aU [1000000000] ?_;simp -dsimp -implicitDefEqProofs only [go_sem];refine aO (q1 _) ?_;simp -dsimp -implicitDefEqProofs only [go_sem]);((with_reducible and_intros);all_goals try ((refine ⟨?_,?_⟩<;>omega)));(refine aU [1000000000] ?_;simp -dsimp -implicitDefEqProofs only [go_sem];refine aO (q2 _) ?_;simp -dsimp -implicitDefEqProofs only [go_sem]);((with_reducible and_intros);all_goals try ((refine ⟨?_,?_⟩<;>omega)));(refine aU [1000000000] ?_;simp -dsimp -implicitDefEqProofs only [go_sem];refine aO (q3 _) ?_;simp -dsimp -implicitDefEqProofs only [go_sem]);((with_reducible and_intros);all_goals try ((refine ⟨?_,?_⟩<;>omega)));(refine aU [1000000000] ?_;simp -dsimp -implicitDefEqProofs only [go_sem];refine aO (q4 _) ?_;simp -dsimp -implicitDefEqProofs only [go_sem]);((with_reducible and_intros);all_goals try ((refine ⟨?_,?_⟩<;>omega)));(refine aU [1000000000] ?_;simp -dsimp -implicitDefEqProofs only [go_sem];refine aO (q5 _) ?_;simp -dsimp -implicitDefEqProofs only [go_sem]);((with_reducible and_intros);all_goals try ((refine ⟨?_,?_⟩<;>omega)));refine qJ hbl ?_;rintro _ ⟨t,ht,rfl⟩;simp -dsimp -implicitDefEqProofs only [go_sem];((with_reducible and_intros);all_goals try omega);all_goals first|(refine ⟨_,_,?_,?_,rfl,rfl⟩<;>first|assumption|(simp;omega))|skip
 . clear k0 k16;have n1:=fh bs 4 hs1;have q1:=λv=>bU v bs 4 s1 hs1 hl;have b1:=n1.2.2.1 (by omega);generalize nx bs 4 s1=x1 at*;have n2:=n1.2.2.2;have hdc:=cC x1.1 (by omega);have hil:=bS (v:=x1.1) (by unfold jx;omega);simp -dsimp -implicitDefEqProofs only [go_sem];(refine aU [1000000000] ?_;simp -dsimp -implicitDefEqProofs only [go_sem];refine aO (q16 _) ?_;simp -dsimp -implicitDefEqProofs only [go_sem]);try simp -dsimp -implicitDefEqProofs only [go_sem,uq1]
   (refine aU [1000000000] ?_;simp -dsimp -implicitDefEqProofs only [go_sem];refine aO (q1 _) ?_;simp -dsimp -implicitDefEqProofs only [go_sem]);refine aa hdc ?_;simp -dsimp -implicitDefEqProofs only [go_sem];((with_reducible and_intros);all_goals try omega);all_goals first|(refine ⟨_,_,?_,?_,rfl,rfl⟩<;>first|assumption|(simp;omega))|skip
 . clear k0 k16;have hp:=Vs bs hs1 (xs:=[20,200,800,4001]) (by simp);have n2:=WT bs [20,200,800,4001] hs1;have qp:=λv v2=>Mc v v2 true bs [20,200,800,4001] _ s1 rfl (by simp) (by simp) hs1 hl;generalize pk bs [20,200,800,4001] s1=x1 at*;have hpb:0<=x1.1/\x1.1<=4001:=by
    simp only [List.mem_cons,List.not_mem_nil,or_false] at hp;rcases hp with e|e|e|e<;>omega
   have hdc:=cC x1.1 (by omega);have hil:=bS (v:=x1.1) (by unfold jx;omega);simp -dsimp -implicitDefEqProofs only [go_sem];(refine aU [1000000000] ?_;simp -dsimp -implicitDefEqProofs only [go_sem];refine aO (q16 _) ?_;simp -dsimp -implicitDefEqProofs only [go_sem]);try simp -dsimp -implicitDefEqProofs only [go_sem,uq1]
   refine aU [1000000000,40] ?_;simp -dsimp -implicitDefEqProofs only [go_sem];refine aO (qp _ _) ?_;simp -dsimp -implicitDefEqProofs only [go_sem];refine aa hdc ?_;simp -dsimp -implicitDefEqProofs only [go_sem];((with_reducible and_intros);all_goals try omega);all_goals first|(refine ⟨_,_,?_,?_,rfl,rfl⟩<;>first|assumption|(simp;omega))|skip
 . clear k0 k16;simp -dsimp -implicitDefEqProofs only [go_sem];(refine aU [1000000000] ?_;simp -dsimp -implicitDefEqProofs only [go_sem];refine aO (q16 _) ?_;simp -dsimp -implicitDefEqProofs only [go_sem]);try simp -dsimp -implicitDefEqProofs only [go_sem,uq1]
   all_goals first|(refine ⟨_,_,?_,?_,rfl,rfl⟩<;>first|assumption|(simp;done))|skip
 . clear k0 k16;have n1:=fh bs (doors+1) hs1;have q1:=λv=>bU v bs (doors+1) s1 hs1 hl;have b1:=n1.2.2.1 (by omega);generalize nx bs (doors+1) s1=x1 at*;have n2:=n1.2.2.2;have hdc:=cC x1.1 (by omega);have hil:=bS (v:=x1.1) (by unfold jx;omega);simp -dsimp -implicitDefEqProofs only [go_sem];(refine aU [1000000000] ?_;simp -dsimp -implicitDefEqProofs only [go_sem];refine aO (q16 _) ?_;simp -dsimp -implicitDefEqProofs only [go_sem]);try simp -dsimp -implicitDefEqProofs only [go_sem,uq1]
   ((with_reducible and_intros);all_goals try ((refine ⟨?_,?_⟩<;>omega)));(refine aU [1000000000] ?_;simp -dsimp -implicitDefEqProofs only [go_sem];refine aO (q1 _) ?_;simp -dsimp -implicitDefEqProofs only [go_sem]);refine aa hdc ?_;simp -dsimp -implicitDefEqProofs only [go_sem];((with_reducible and_intros);all_goals try omega);all_goals first|(refine ⟨_,_,?_,?_,rfl,rfl⟩<;>first|assumption|(simp;omega))|skip
 . clear k0 k16;simp -dsimp -implicitDefEqProofs only [go_sem];(refine aU [1000000000] ?_;simp -dsimp -implicitDefEqProofs only [go_sem];refine aO (q16 _) ?_;simp -dsimp -implicitDefEqProofs only [go_sem]);try simp -dsimp -implicitDefEqProofs only [go_sem,uq1]
   refine dr [1000000000] ?_;simp -dsimp -implicitDefEqProofs only [go_sem];refine cg (Ke _) ?_;rintro _ _ ⟨rfl,rfl⟩;simp -dsimp -implicitDefEqProofs only [go_sem];refine aa hkt ?_;simp -dsimp -implicitDefEqProofs only [go_sem];((with_reducible and_intros);all_goals try omega);all_goals first|(refine ⟨_,_,?_,?_,rfl,rfl⟩<;>first|assumption|(simp;omega))|skip
 . clear k0 k16;simp -dsimp -implicitDefEqProofs only [go_sem];(refine aU [1000000000] ?_;simp -dsimp -implicitDefEqProofs only [go_sem];refine aO (q16 _) ?_;simp -dsimp -implicitDefEqProofs only [go_sem]);try simp -dsimp -implicitDefEqProofs only [go_sem,uq1]
   all_goals first|(refine ⟨_,_,?_,?_,rfl,rfl⟩<;>first|assumption|(simp;done))|skip
 . clear k0 k16;simp -dsimp -implicitDefEqProofs only [go_sem];(refine aU [1000000000] ?_;simp -dsimp -implicitDefEqProofs only [go_sem];refine aO (q16 _) ?_;simp -dsimp -implicitDefEqProofs only [go_sem]);try simp -dsimp -implicitDefEqProofs only [go_sem,uq1]
   all_goals first|(refine ⟨_,_,?_,?_,rfl,rfl⟩<;>first|assumption|(simp;done))|skip
 . clear k0 k16;have n1:=fh bs 4 hs1;have q1:=λv=>bU v bs 4 s1 hs1 hl;have b1:=n1.2.2.1 (by omega);generalize nx bs 4 s1=x1 at*;have n2:=fh bs 400 n1.2.2.2;have q2:=λv=>bU v bs 400 x1.2 n1.2.2.2 hl;have b2:=n2.2.2.1 (by omega);generalize nx bs 400 x1.2=x2 at*;have n3:=n2.2.2.2;have d1:=cC x1.1 (by omega);have i1:=bS (v:=x1.1) (by unfold jx;omega);have d2:=cC x2.1 (by omega);have i2:=bS (v:=x2.1) (by unfold jx;omega);simp -dsimp -implicitDefEqProofs only [go_sem];(refine aU [1000000000] ?_;simp -dsimp -implicitDefEqProofs only [go_sem];refine aO (q16 _) ?_;simp -dsimp -implicitDefEqProofs only [go_sem]);try simp -dsimp -implicitDefEqProofs only [go_sem,uq1]
   (refine aU [1000000000] ?_;simp -dsimp -implicitDefEqProofs only [go_sem];refine aO (q1 _) ?_;simp -dsimp -implicitDefEqProofs only [go_sem]);refine aa d1 ?_;simp -dsimp -implicitDefEqProofs only [go_sem];((with_reducible and_intros);all_goals try omega);(refine aU [1000000000] ?_;simp -dsimp -implicitDefEqProofs only [go_sem];refine aO (q2 _) ?_;simp -dsimp -implicitDefEqProofs only [go_sem]);refine aa d2 ?_;simp -dsimp -implicitDefEqProofs only [go_sem];((with_reducible and_intros);all_goals try omega);all_goals first|(refine ⟨_,_,?_,?_,rfl,rfl⟩<;>first|assumption|(simp;omega))|skip
 . clear k0 k16;simp -dsimp -implicitDefEqProofs only [go_sem];(refine aU [1000000000] ?_;simp -dsimp -implicitDefEqProofs only [go_sem];refine aO (q16 _) ?_;simp -dsimp -implicitDefEqProofs only [go_sem]);try simp -dsimp -implicitDefEqProofs only [go_sem,uq1]
   all_goals first|(refine ⟨_,_,?_,?_,rfl,rfl⟩<;>first|assumption|(simp;done))|skip
 . clear k0 k16;simp -dsimp -implicitDefEqProofs only [go_sem];(refine aU [1000000000] ?_;simp -dsimp -implicitDefEqProofs only [go_sem];refine aO (q16 _) ?_;simp -dsimp -implicitDefEqProofs only [go_sem]);try simp -dsimp -implicitDefEqProofs only [go_sem,uq1]
   all_goals first|(refine ⟨_,_,?_,?_,rfl,rfl⟩<;>first|assumption|(simp;done))|skip
 clear Ke g1 g2 g3 f1 f4 hkt hkl;have c0:(k==0)=false:=beq_eq_false_iff_ne.2 (by omega);have c1:(k==1)=false:=beq_eq_false_iff_ne.2 (by omega);have c2:(k==2)=false:=beq_eq_false_iff_ne.2 (by omega);have c3:(k==3)=false:=beq_eq_false_iff_ne.2 (by omega);have c4:(k==4)=false:=beq_eq_false_iff_ne.2 (by omega);have c5:(k==5)=false:=beq_eq_false_iff_ne.2 (by omega);have c6:(k==6)=false:=beq_eq_false_iff_ne.2 (by omega);have c7:(k==7)=false:=beq_eq_false_iff_ne.2 (by omega);have c8:(k==8)=false:=beq_eq_false_iff_ne.2 (by omega);have c9:(k==9)=false:=beq_eq_false_iff_ne.2 (by omega);have c10:(k==10)=false:=beq_eq_false_iff_ne.2 (by omega);obtain ⟨D,rfl⟩:∃D:Nat,doors=D:=⟨doors.toNat,by omega⟩;simp -dsimp -implicitDefEqProofs only [go_sem];(refine aU [1000000000] ?_;simp -dsimp -implicitDefEqProofs only [go_sem];refine aO (q16 _) ?_;simp -dsimp -implicitDefEqProofs only [go_sem]);simp -dsimp -implicitDefEqProofs only [go_sem,c0,c1,c2,c3,c4,c5,c6,c7,c8,c9,c10];have hb:=λi=>mS (bs:=bs) (D:=2) hs1 (by omega) i;refine aj.up [0,2,4] [88,89,90] [80,1000000000] D (λ_=>True) (λi=>[(8,eI i),(7,.ref 80 0 0 (bJ bs 2 s1 i).1.length)]) (λi=>[(80,.row 0 ⟨1,false⟩ true ((bJ bs 2 s1 i).1.map eI)),(1000000000,mH v bs (bJ bs 2 s1 i).2)]) trivial ?_ rfl (λi hi _=> ?_) (λ_=> ?_)
 . simp -dsimp -implicitDefEqProofs only [go_sem];all_goals first|(simp [bJ];done)|(first|omega|(refine ⟨?_,?_⟩<;>omega)|exact rfl|(simp;done)|skip)
 . have hlt:decide ((i:Int)<(D:Int))=true:=dT (by omega);obtain ⟨h1,h2,h3⟩:=hb i;have q:=λv=>bU v bs 2 _ h1 hl;have GW:bJ bs 2 s1 (i+1)=((bJ bs 2 s1 i).1++[(nx bs 2 (bJ bs 2 s1 i).2).1],(nx bs 2 (bJ bs 2 s1 i).2).2):=rfl;rw [GW];clear GW hb;generalize nx bs 2 (bJ bs 2 s1 i).2=a at*;generalize bJ bs 2 s1 i=p at*;have htk:List.take p.1.length (uq8 eI p.1)=uq8 eI p.1:=b6 (by simp);simp -dsimp -implicitDefEqProofs only [go_sem,hlt];(refine aU [1000000000] ?_;simp -dsimp -implicitDefEqProofs only [go_sem];refine aO (q _) ?_;simp -dsimp -implicitDefEqProofs only [go_sem]);((with_reducible and_intros);all_goals try first|omega|(refine ⟨?_,?_⟩<;>omega)|exact rfl);all_goals first|(simp;done)|(first|omega|(refine ⟨?_,?_⟩<;>omega)|exact rfl|(simp;done)|skip)
 have hlt:decide (((D:Nat):Int)<(D:Int))=false:=dF (by omega);obtain ⟨h1,h2,h3⟩:=hb D;clear hb;have hrt:=pZ (bJ bs 2 s1 D).1 (by omega) λx hx=>by have:=h3 x hx;omega
 have hrl:(k7 (bJ bs 2 s1 D).1).length<=8:=by rw [k7,uq6];omega
 generalize bJ bs 2 s1 D=p at*;have tP:(p.1.map eI).take p.1.length=p.1.map eI:=b6 (by simp);have Ke:=λv=>B0 v bs p.2 m h1 hm hl;have hct:=mS (bs:=bs) (D:=m.ak) h1 (by omega) m.ae.toNat;obtain ⟨g1,g2,g3⟩:=hct;have hk:=FX hm (c:=(bJ bs m.ak p.2 m.ae.toNat).1) (by omega) g3;obtain ⟨f1,_,_,f4⟩:=hk;have hkt:=pZ (n_ m (bJ bs m.ak p.2 m.ae.toNat).1) (by omega) λx hx=>by have:=f4 x hx;omega
 have hkl:(k7 (n_ m (bJ bs m.ak p.2 m.ae.toNat).1)).length<=8:=by rw [k7,uq6];omega
 simp -dsimp -implicitDefEqProofs only [go_sem,hlt];refine dr [1000000000] ?_;simp -dsimp -implicitDefEqProofs only [go_sem];refine cg (Ke _) ?_;rintro _ _ ⟨rfl,rfl⟩;simp -dsimp -implicitDefEqProofs only [go_sem];refine aa hkt ?_;simp -dsimp -implicitDefEqProofs only [go_sem];((with_reducible and_intros);all_goals try omega);refine aa hrt ?_;simp -dsimp -implicitDefEqProofs only [go_sem];((with_reducible and_intros);all_goals try omega);all_goals first|(refine ⟨_,_,?_,?_,rfl,rfl⟩<;>first|assumption|(simp;omega))|skip
def Xi (bs:lU) (v:Nat) (x:AV) (io:List bc):Prop:=∃(t:lU) (s:Src),gq s/\t.length<=5000/\x=eS t/\io=[mH v bs s]
theorem M7 (v:Nat) (bs:lU) (s:Src) (h:gq s) (hl:bs.length<=4096):
 mb pG 37 [mH v bs s] [.ptr 1000000000 v 0 0] (Xi bs v):=by
 unfold Xi;refine mb.cW 58 [.tmp 2] func37 (hv:= ?_);have n1:=fh bs 3 h;have q1:=λv=>bU v bs 3 s h hl;have b1:=n1.2.2.1 (by omega);generalize nx bs 3 s=x1 at*;have n2:=fh bs 12 n1.2.2.2;have q2:=λv=>bU v bs 12 x1.2 n1.2.2.2 hl;have b2:=n2.2.2.1 (by omega);generalize nx bs 12 x1.2=x2 at*;have n3:=n2.2.2.2;simp -dsimp -implicitDefEqProofs only [go_sem];refine au rB (by exact True.intro) ?_;simp -dsimp -implicitDefEqProofs only [go_sem];(refine aU [1000000000] ?_;simp -dsimp -implicitDefEqProofs only [go_sem];refine aO (q1 _) ?_;simp -dsimp -implicitDefEqProofs only [go_sem]);((with_reducible and_intros);all_goals try ((refine ⟨?_,?_⟩<;>omega)));(refine aU [1000000000] ?_;simp -dsimp -implicitDefEqProofs only [go_sem];refine aO (q2 _) ?_;simp -dsimp -implicitDefEqProofs only [go_sem]);have hx0:((x2.1.toNat:Nat):Int)=x2.1:=Int.toNat_of_nonneg n2.1
 refine aj.lp [0,4,5] [8,25,27,31,35] [4,1000000000] (λx:Nat × lU × Dk × Src=>gq x.2.2.2/\k_ x.2.2.1=true/\x.2.1.length+x.1*302<=3700) (λx=>[(6,eI x.1),(3,eS x.2.1)])
  (λx=>[(4,.box 0 [eI x.2.2.1.m.ae,eI x.2.2.1.m.ak,eI x.2.2.1.m.step,eI x.2.2.1.m.same,eI x.2.2.1.m.least,aQ x.2.2.1.a,aQ x.2.2.1.k]),(1000000000,mH v bs x.2.2.2)]) (λx=>x.1) (x2.1.toNat,[],Nh,x2.2) ⟨n3,rfl,by simp only [uq7];omega⟩ ?_ rfl (λx hx=> ?_)
 . rw [hx0];simp -dsimp -implicitDefEqProofs only [go_sem]
 obtain ⟨n,t,d,s'⟩:=x;obtain ⟨h1,h2,h3⟩:=hx;simp only at h1 h2 h3 ⊢;by_cases hn:0<n
 . have c0:decide ((n:Int)>0)=true:=dT (by omega);simp -dsimp -implicitDefEqProofs only [go_sem,c0];refine dr [1000000000] ?_;simp -dsimp -implicitDefEqProofs only [go_sem];refine cg (s4 _ bs s' d.m (1+x1.1) h1 hl (XO h2).pg (by omega)) ?_;rintro _ _ ⟨l,s2,hs2,hll,rfl,rfl⟩;have n4:=fh bs 16 hs2;have q4:=λv=>bU v bs 16 s2 hs2 hl;generalize nx bs 16 s2=x4 at*;have n5:=n4.2.2.2;have qd:=λv=>vH v bs l x4.2 n5 hl (by omega);have od:=B_ bs l n5;generalize nN bs l x4.2=x5 at*;obtain ⟨od1,od2⟩:=od;simp -dsimp -implicitDefEqProofs only [go_sem];(refine aU [1000000000] ?_;simp -dsimp -implicitDefEqProofs only [go_sem];refine aO (q4 _) ?_;simp -dsimp -implicitDefEqProofs only [go_sem]);by_cases hz:x4.1=0
   . have ez:(x4.1==0)=true:=beq_iff_eq.2 hz;have hr:=zn d h2 x5.1 (by omega);have ok2:=I2 h2 x5.1;generalize ly d x5.1=X at*;simp -dsimp -implicitDefEqProofs only [go_sem,ez];(refine aU [1000000000] ?_;simp -dsimp -implicitDefEqProofs only [go_sem];refine aO (qd _) ?_;simp -dsimp -implicitDefEqProofs only [go_sem]);refine au hr (by simp [ax,ao,aq,aF]) ?_;simp -dsimp -implicitDefEqProofs only [go_sem];((with_reducible and_intros);all_goals try first|omega|(refine ⟨?_,?_⟩<;>omega));refine ⟨(n-1,_,X.1,x5.2),⟨od1,ok2,?_⟩,?_,⟨?_,rfl⟩,?_,rfl,rfl⟩;all_goals first|(show n-1<n;omega)|(show Value.int .i64 ((n:Int)-1)=Value.int .i64 ((n-1:Nat):Int);rw [show ((n-1:Nat):Int)=(n:Int)-1 by omega])|(exact ⟨rfl,rfl,rfl,rfl,rfl,rfl,rfl⟩)|(simp;omega)|skip
   have ez:(x4.1==0)=false:=(by simpa using hz);have hr:=zn d h2 l (by omega);have ok2:=I2 h2 l;generalize ly d l=X at*;simp -dsimp -implicitDefEqProofs only [go_sem,ez];refine au hr (by simp [ax,ao,aq,aF]) ?_;simp -dsimp -implicitDefEqProofs only [go_sem];((with_reducible and_intros);all_goals try first|omega|(refine ⟨?_,?_⟩<;>omega));refine ⟨(n-1,_,X.1,x4.2),⟨n5,ok2,?_⟩,?_,⟨?_,rfl⟩,?_,rfl,rfl⟩;all_goals first|(show n-1<n;omega)|(show Value.int .i64 ((n:Int)-1)=Value.int .i64 ((n-1:Nat):Int);rw [show ((n-1:Nat):Int)=(n:Int)-1 by omega])|(exact ⟨rfl,rfl,rfl,rfl,rfl,rfl,rfl⟩)|(simp;omega)|skip
 obtain rfl:n=0:=by omega
 have c0:decide ((0:Int)>0)=false:=rfl;have c1:((0:Nat):Int)=0:=rfl;have n4:=fh bs 40 h1;have q4:=λv=>bU v bs 40 s' h1 hl;generalize nx bs 40 s'=x4 at*;have n5:=n4.2.2.2;simp -dsimp -implicitDefEqProofs only [go_sem,c0,c1];(refine aU [1000000000] ?_;simp -dsimp -implicitDefEqProofs only [go_sem];refine aO (q4 _) ?_;simp -dsimp -implicitDefEqProofs only [go_sem]);by_cases z0:x4.1=0
 . have ez:(x4.1==0)=true:=beq_iff_eq.2 z0;simp -dsimp -implicitDefEqProofs only [go_sem,ez];refine aj.lp [] [] [1000000000] (λx:Nat × lU=>x.1<=45/\x.2.length+(45-x.1)*6<=4000) (λx=>[(10,eI x.1),(3,eS x.2)]) (λ_=>[(1000000000,mH v bs x4.2)]) (λx=>45-x.1) (0,t) ⟨by omega,by simp only;omega⟩ ?_ rfl (λx hx=> ?_)
   . simp -dsimp -implicitDefEqProofs only [go_sem]
   obtain ⟨k,u⟩:=x;obtain ⟨k1,k2⟩:=hx;simp only at k1 k2 ⊢;by_cases hk:k<45
   . have c2:decide ((k:Int)<45)=true:=dT (by omega);simp -dsimp -implicitDefEqProofs only [oU,mL,kP,sv,sw,oV,yg,bm,beq_self_eq_true,Bool.false_eq_true,Bool.or_false,↓reduceIte,List.cons_append,List.nil_append];simp -dsimp -implicitDefEqProofs only [go_sem,c2];((with_reducible and_intros);all_goals try first|omega|(refine ⟨?_,?_⟩<;>omega));refine ⟨(k+1,_),⟨by omega,?_⟩,by simp only;omega,?_,rfl⟩
     rotate_left
     . exact rfl
     simp only [List.length_append,uq5,uq7];omega
   have c2:decide ((k:Int)<45)=false:=dF (by omega);simp -dsimp -implicitDefEqProofs only [oU,mL,kP,sv,sw,oV,yg,bm,beq_self_eq_true,Bool.false_eq_true,Bool.or_false,↓reduceIte,List.cons_append,List.nil_append];simp -dsimp -implicitDefEqProofs only [go_sem,c2];all_goals first|(exact ⟨_,_,n5,by omega,rfl,rfl⟩)|skip
 have ez:(x4.1==0)=false:=by simpa using z0
 by_cases z1:x4.1=1
 . have e1:(x4.1==1)=true:=beq_iff_eq.2 z1;simp -dsimp -implicitDefEqProofs only [go_sem,ez,e1];((with_reducible and_intros);all_goals try omega);all_goals first|(exact ⟨_,_,n5,by simp only [List.length_append];simp;omega,rfl,rfl⟩)|skip
 have e1:(x4.1==1)=false:=by simpa using z1
 simp -dsimp -implicitDefEqProofs only [go_sem,ez,e1];all_goals first|(exact ⟨_,_,n5,by omega,rfl,rfl⟩)|skip
theorem uj (bs:lU) (hl:bs.length<=4096):Fn pG 13 [Wd bs] false (λx=>∃t:lU,t.length<=5000/\x=eS t):=by
 refine Fn.bY 6 [.tmp 2] func13 (hv:= ?_);simp -dsimp -implicitDefEqProofs only [go_sem];(refine bN 900000 34 [.tmp 2] func38 rfl rfl rfl rfl rfl (by exact oT rfl) ?_;simp -dsimp -implicitDefEqProofs only [go_sem];refine aj.up [0,3] [10] [7] (min bs.length 64) (λ_=>True) (λi=>[(4,eI i)]) (λi=>[(7,mH 0 bs ⟨gQ bs i,0⟩)]) trivial ?_ rfl (λi hi _=> ?_) (λ_=> ?_))
 . simp -dsimp -implicitDefEqProofs only [go_sem];simp [gQ]
 . ((have h1:i<bs.length:=by omega);(have h2:i<64:=by omega);(have hs:=pS bs i);(have hb:=(bs[i]).toNat_lt);(have d1:=aE h1);(have d2:decide ((i:Int)<64)=true:=dT (by omega));(have g1:=get_some h1);(have e1:=vx h1);simp -dsimp -implicitDefEqProofs only [pz,bm,Nat.reduceDiv,Nat.reduceAdd,↓reduceIte,Nat.reduceEqDiff];rw [e1];generalize bs[i]=b at*;generalize gQ bs i=z at*;simp -dsimp -implicitDefEqProofs only [go_sem,d1,d2];refine aj.draw mixed rfl ?_;simp -dsimp -implicitDefEqProofs only [go_sem,g1];(with_reducible and_intros);all_goals (first|omega|(refine ⟨?_,?_⟩<;>omega)|exact rfl|skip))
 (have hs:=JX bs);(have hq:(⟨gQ bs (min bs.length 64),0⟩:Src)=PM bs:=rfl);rw [hq];clear hq;generalize PM bs=s at*;(have d64:decide (((64:Nat):Int)<64)=false:=rfl);rcases Nat.lt_or_ge 64 bs.length with h64|h64
 case' inl=>(rw [Nat.min_eq_right (Nat.le_of_lt h64)];simp -dsimp -implicitDefEqProofs only [pz,bm,Nat.reduceDiv,Nat.reduceAdd,↓reduceIte,Nat.reduceEqDiff];simp -dsimp -implicitDefEqProofs only [go_sem,aE h64,d64])
 case' inr=>(rw [Nat.min_eq_left h64];simp -dsimp -implicitDefEqProofs only [pz,bm,Nat.reduceDiv,Nat.reduceAdd,↓reduceIte,Nat.reduceEqDiff];simp -dsimp -implicitDefEqProofs only [go_sem,ay])
 all_goals
  refine dr [900007] ?_;simp -dsimp -implicitDefEqProofs only [go_sem];refine cg (M7 _ bs s hs hl) ?_;rintro _ _ ⟨t,s2,o1,o2,rfl,rfl⟩;simp -dsimp -implicitDefEqProofs only [go_sem];all_goals first|(exact ⟨t,o2,rfl⟩)|skip
theorem qb (bs:lU) (hl:bs.length<=4096):Fn pG 17 [Wd bs] false (λx=>∃t:lU,t.length<=5000/\x=eS t):=by
 refine Fn.bY 18 [.tmp 2] func17 (hv:= ?_);simp -dsimp -implicitDefEqProofs only [go_sem];(refine bN 900000 34 [.tmp 2] func38 rfl rfl rfl rfl rfl (by exact oT rfl) ?_;simp -dsimp -implicitDefEqProofs only [go_sem];refine aj.up [0,3] [10] [7] (min bs.length 64) (λ_=>True) (λi=>[(4,eI i)]) (λi=>[(7,mH 0 bs ⟨gQ bs i,0⟩)]) trivial ?_ rfl (λi hi _=> ?_) (λ_=> ?_))
 . simp -dsimp -implicitDefEqProofs only [go_sem];simp [gQ]
 . ((have h1:i<bs.length:=by omega);(have h2:i<64:=by omega);(have hs:=pS bs i);(have hb:=(bs[i]).toNat_lt);(have d1:=aE h1);(have d2:decide ((i:Int)<64)=true:=dT (by omega));(have g1:=get_some h1);(have e1:=vx h1);simp -dsimp -implicitDefEqProofs only [pz,bm,Nat.reduceDiv,Nat.reduceAdd,↓reduceIte,Nat.reduceEqDiff];rw [e1];generalize bs[i]=b at*;generalize gQ bs i=z at*;simp -dsimp -implicitDefEqProofs only [go_sem,d1,d2];refine aj.draw mixed rfl ?_;simp -dsimp -implicitDefEqProofs only [go_sem,g1];(with_reducible and_intros);all_goals (first|omega|(refine ⟨?_,?_⟩<;>omega)|exact rfl|skip))
 (have hs:=JX bs);(have hq:(⟨gQ bs (min bs.length 64),0⟩:Src)=PM bs:=rfl);rw [hq];clear hq;generalize PM bs=s at*;(have d64:decide (((64:Nat):Int)<64)=false:=rfl);rcases Nat.lt_or_ge 64 bs.length with h64|h64
 case' inl=>(rw [Nat.min_eq_right (Nat.le_of_lt h64)];simp -dsimp -implicitDefEqProofs only [pz,bm,Nat.reduceDiv,Nat.reduceAdd,↓reduceIte,Nat.reduceEqDiff];simp -dsimp -implicitDefEqProofs only [go_sem,aE h64,d64])
 case' inr=>(rw [Nat.min_eq_left h64];simp -dsimp -implicitDefEqProofs only [pz,bm,Nat.reduceDiv,Nat.reduceAdd,↓reduceIte,Nat.reduceEqDiff];simp -dsimp -implicitDefEqProofs only [go_sem,ay])
 all_goals
  refine au rB (by simp [ax]) ?_;simp -dsimp -implicitDefEqProofs only [go_sem];refine dr [900007] ?_;simp -dsimp -implicitDefEqProofs only [go_sem];refine cg (s4 _ bs s Nh.m 2 hs hl rfl (by omega)) ?_;rintro _ _ ⟨l,s2,hs2,hll,rfl,rfl⟩;have n4:=fh bs 2 hs2;have q4:=λv=>bU v bs 2 s2 hs2 hl;generalize nx bs 2 s2=x4 at*;have n5:=n4.2.2.2;have qd:=λv=>vH v bs l x4.2 n5 hl (by omega);have od:=B_ bs l n5;generalize nN bs l x4.2=x5 at*;obtain ⟨od1,od2⟩:=od;simp -dsimp -implicitDefEqProofs only [go_sem];(refine aU [900007] ?_;simp -dsimp -implicitDefEqProofs only [go_sem];refine aO (q4 _) ?_;simp -dsimp -implicitDefEqProofs only [go_sem]);by_cases hz:x4.1=0
  . have ez:(x4.1==0)=true:=beq_iff_eq.2 hz;simp -dsimp -implicitDefEqProofs only [go_sem,ez];(refine aU [900007] ?_;simp -dsimp -implicitDefEqProofs only [go_sem];refine aO (qd _) ?_;simp -dsimp -implicitDefEqProofs only [go_sem]);all_goals first|(exact ⟨_,by omega,rfl⟩)|skip
  have ez:(x4.1==0)=false:=by simpa using hz
  simp -dsimp -implicitDefEqProofs only [go_sem,ez];all_goals first|(exact ⟨_,by omega,rfl⟩)|skip
def dY:lU:=[110,111,105,115,101]
theorem Kd {c:UInt8} (b:lU):∀(a:lU),cT c (a++c::b)=cT c a++cT c b
 | []=>by simp [cT]
 |x::a=>by
  have ih:=Kd (c:=c) b a;rw [List.cons_append,cT,cT,ih];by_cases hb:x=c
  . rw [if_pos hb,if_pos hb];rfl
  rw [if_neg hb,if_neg hb];have hne:=qS c a;cases hs:cT c a with
  |nil=>exact absurd hs hne
  |cons y r=>rfl
theorem Dz {t:lU} (h:t=[]\/t.drop (t.length-1)=[10]):cS (t++(dY++[10]))=cS t++[dY]:=by
 have hs:cT 10 dY=[dY]:=by decide
 have e1:k9 (t++(dY++[10]))=t++dY:=by
  rw [←List.append_assoc];unfold k9;have hl:(t++dY++[10]).length-1=(t++dY).length:=by simp
  rw [hl,List.drop_left,if_pos rfl,List.take_left]
 have e2:cS (t++(dY++[10]))=cT 10 (t++dY):=by rw [←rp,if_neg (by simp),e1]
 rw [e2];rcases h with rfl|h
 . rw [List.nil_append,hs];rfl
 have hne:t≠[]:=by rintro rfl;simp at h
 have ht:t=t.take (t.length-1)++[10]:=by conv=>lhs;rw [←List.take_append_drop (t.length-1) t,h]
 have e3:cS t=cT 10 (t.take (t.length-1)):=by rw [←rp,if_neg hne];unfold k9;rw [if_pos h]
 rw [e3];conv=>lhs;rw [ht]
 rw [List.append_assoc,List.singleton_append,Kd,hs]
theorem I_:Cn dY=none:=rA (by decide)
theorem VH:sZ 6=[101,114,114,111,114,32,54]:=by first|kernel_rfl|(unfold sZ Lib.itoa;decide)
theorem I' {t:lU} (h:t=[]\/t.drop (t.length-1)=[10]) (h0:(gA t).2=0):
 gA (t++(dY++[10]))=([],3)\/gA (t++(dY++[10]))=((gA t).1++[[101,114,114,111,114,32,54]],0):=by
 have ho:gA t=((ew (cS t)).2,0):=by
  unfold gA at h0 ⊢;split at h0
  . rename_i hc;rw [if_pos hc]
  simp at h0
 rw [ho];by_cases hc:(decide ((t++(dY++[10])).length<=3000)&&decide ((cS (t++(dY++[10]))).length<=50))=true
 . right;unfold gA;rw [if_pos hc,Dz h,Co];have:ly (ew (cS t)).1 dY=((ew (cS t)).1,sZ 6):=(by unfold ly;rw [I_]);unfold vK;rw [this,VH]
 left;unfold gA;rw [if_neg hc]
theorem GR {t:lU} (h:t≠[]) (h2:t.getD (t.length-1) 0=10):t.drop (t.length-1)=[10]:=by
 have hp:=List.length_pos_iff.2 h;have hl:t.length-1<t.length:=by omega
 rw [List.drop_eq_getElem_cons hl,show t.length-1+1=t.length by omega,List.drop_length];rw [List.getD_eq_getElem?_getD,List.getElem?_eq_getElem hl] at h2;simp only [Option.getD_some] at h2;rw [h2]
theorem uk (bs:lU) (h:bs.length<=9223372036854775807):Fn pG 4 [Wd bs] true (· =eB true):=by
 refine Fn.av 148 [.tmp 2] func4 (hv:= ?_);simp -dsimp -implicitDefEqProofs only [go_sem];refine aa (WU bs h) ?_;rcases hb:decide ((bs.length:Int)>4096) with _|_
 rotate_left
 . simp -dsimp -implicitDefEqProofs only [go_sem]
 have hl:bs.length<=4096:=by have:=of_decide_eq_false hb;omega
 simp -dsimp -implicitDefEqProofs only [go_sem];refine vI (uj bs hl) (by simp [ax,ao,aF]) ?_;rintro _ ⟨t,ht,rfl⟩;have cs:=qC t (by omega);have ci:=qD t (by omega);have hO:=Cu t;have hno:=@I' t;have cs2:=qC (t++(dY++[10])) (by simp [dY];omega);have ci2:=qD (t++(dY++[10])) (by simp [dY];omega);have hO2:=Cu (t++(dY++[10]));generalize gA t=O at*;generalize gA (t++(dY++[10]))=O2 at*;obtain ⟨O,c⟩:=O;obtain ⟨O2,c2⟩:=O2;simp only at cs ci hO cs2 ci2 hO2 hno;have tO:(O.map eS).take O.length=O.map eS:=b6 (by simp);have lk1:=s0 O (by omega);have e0:(c != c)=false:=by simp
 have d30:((3:Int) != 0)=true:=rfl;have d00:((0:Int) != 0)=false:=rfl;have e02:(c2 != c2)=false:=by simp
 have tO2:(O2.map eS).take O2.length=O2.map eS:=b6 (by simp);have lk2:=s0 O2 (by omega);simp only [dY,List.cons_append,List.nil_append] at cs2 ci2;simp -dsimp -implicitDefEqProofs only [go_sem];refine aa ci ?_;simp -dsimp -implicitDefEqProofs only [go_sem,uq6];refine au cs (by simp [ax,ao,aF]) ?_;simp -dsimp -implicitDefEqProofs only [go_sem,e0];refine aa lk1 ?_;simp -dsimp -implicitDefEqProofs only [go_sem];refine au cs (by simp [ax,ao,aF]) ?_;simp -dsimp -implicitDefEqProofs only [go_sem];refine vI (qb bs hl) (by simp [ax,ao,aF]) ?_;rintro _ ⟨l,hll,rfl⟩;have il:=MI l (by omega);have sl:=MG l (by omega);generalize (d_ l).2.2=pl at*;have e1:((O.length:Int) != (O.length:Int))=false:=by simp
 have e2:(pl != pl)=false:=by simp
 simp -dsimp -implicitDefEqProofs only [go_sem,e0,e1];refine aa il ?_;simp -dsimp -implicitDefEqProofs only [go_sem];refine aa sl ?_;simp -dsimp -implicitDefEqProofs only [go_sem];refine aj.up [3,4,5,8] [66] [] O.length (λ_=>True) (λi=>[(11,eI i)]) (λ_=>[]) trivial ?_ rfl (λi hi _=> ?_) (λ_=> ?_)
 . simp -dsimp -implicitDefEqProofs only [go_sem]
 . have gi:=get_some hi;have li:=aE hi;have en:(O[i] != O[i])=false:=(by simp);generalize O[i]=x at*;have hx:decide (x=x)=true:=dT rfl;simp -dsimp -implicitDefEqProofs only [go_sem,li];refine aj.draw mixed rfl ?_;simp -dsimp -implicitDefEqProofs only [go_sem,gi];((with_reducible and_intros);all_goals try first|omega|(refine ⟨?_,?_⟩<;>omega)|exact rfl)
 by_cases hc0:c=0
 . subst hc0;have ec:((0:Int) != 0)=false:=rfl;by_cases ht0:t=[]
   . have hT:=hno (.inl ht0) rfl;have el:decide ((t.length:Int)>0)=false:=(by rw [ht0];rfl);simp -dsimp -implicitDefEqProofs only [go_sem,ay,ec,el];((with_reducible and_intros);all_goals try omega);(refine aa ci2 ?_;simp -dsimp -implicitDefEqProofs only [go_sem,uq6];((with_reducible and_intros);all_goals try omega);refine au cs2 (by simp [ax,ao,aF]) ?_;simp -dsimp -implicitDefEqProofs only [go_sem,e02];refine aa lk2 ?_;simp -dsimp -implicitDefEqProofs only [go_sem];rcases hT with e|e<;>cases e)
     . simp -dsimp -implicitDefEqProofs only [go_sem,d30]
     have e3:(((O.length+1:Nat):Int) != (O.length:Int)+1)=false:=(by simp);have gE:(O++[[101,114,114,111,114,32,54]])[O.length]? =some ([101,114,114,111,114,32,54]:lU):=(by simp);have lE:(O++[[101,114,114,111,114,32,54]]).length=O.length+1:=(by simp);generalize hE:(O++[([101,114,114,111,114,32,54]:lU)])=O2 at*;simp -dsimp -implicitDefEqProofs only [go_sem,d00,lE,e3];((with_reducible and_intros);all_goals try first|omega|(refine ⟨?_,?_⟩<;>omega));all_goals try simp -dsimp -implicitDefEqProofs only [go_sem,gE]
     refine aj.up [4,12] [135] [] O.length (λ_=>True) (λi=>[(16,eI i)]) (λ_=>[]) trivial ?_ rfl (λi hi _=> ?_) (λ_=> ?_)
     . simp -dsimp -implicitDefEqProofs only [go_sem]
     . have gi:=get_some hi;have li:=aE hi;have g2:O2[i]? =some O[i]:=(by rw [←hE,List.getElem?_append_left hi];exact gi);generalize O[i]=x at*;have hx:decide (x=x)=true:=dT rfl;simp -dsimp -implicitDefEqProofs only [go_sem,li,lE];refine aj.draw mixed rfl ?_;simp -dsimp -implicitDefEqProofs only [go_sem,gi,g2];((with_reducible and_intros);all_goals try first|omega|(refine ⟨?_,?_⟩<;>omega)|exact rfl)
     simp -dsimp -implicitDefEqProofs only [go_sem,ay]
   have hp:=List.length_pos_iff.2 ht0;have el:decide ((t.length:Int)>0)=true:=dT (by omega);have ix:((t.length:Int)-1).toNat=t.length-1:=(by omega);by_cases h10:t.getD (t.length-1) 0=10
   . have hT:=hno (.inr (GR ht0 h10)) rfl;have eb:(((t.getD (t.length-1) 0).toNat:Int) != 10)=false:=(by rw [h10];rfl);simp -dsimp -implicitDefEqProofs only [go_sem,ay,ec,el,ix,eb];((with_reducible and_intros);all_goals try first|omega|(refine ⟨?_,?_⟩<;>omega));(refine aa ci2 ?_;simp -dsimp -implicitDefEqProofs only [go_sem,uq6];((with_reducible and_intros);all_goals try omega);refine au cs2 (by simp [ax,ao,aF]) ?_;simp -dsimp -implicitDefEqProofs only [go_sem,e02];refine aa lk2 ?_;simp -dsimp -implicitDefEqProofs only [go_sem];rcases hT with e|e<;>cases e)
     . simp -dsimp -implicitDefEqProofs only [go_sem,d30]
     have e3:(((O.length+1:Nat):Int) != (O.length:Int)+1)=false:=(by simp);have gE:(O++[[101,114,114,111,114,32,54]])[O.length]? =some ([101,114,114,111,114,32,54]:lU):=(by simp);have lE:(O++[[101,114,114,111,114,32,54]]).length=O.length+1:=(by simp);generalize hE:(O++[([101,114,114,111,114,32,54]:lU)])=O2 at*;simp -dsimp -implicitDefEqProofs only [go_sem,d00,lE,e3];((with_reducible and_intros);all_goals try first|omega|(refine ⟨?_,?_⟩<;>omega));all_goals try simp -dsimp -implicitDefEqProofs only [go_sem,gE]
     refine aj.up [4,12] [135] [] O.length (λ_=>True) (λi=>[(16,eI i)]) (λ_=>[]) trivial ?_ rfl (λi hi _=> ?_) (λ_=> ?_)
     . simp -dsimp -implicitDefEqProofs only [go_sem]
     . have gi:=get_some hi;have li:=aE hi;have g2:O2[i]? =some O[i]:=(by rw [←hE,List.getElem?_append_left hi];exact gi);generalize O[i]=x at*;have hx:decide (x=x)=true:=dT rfl;simp -dsimp -implicitDefEqProofs only [go_sem,li,lE];refine aj.draw mixed rfl ?_;simp -dsimp -implicitDefEqProofs only [go_sem,gi,g2];((with_reducible and_intros);all_goals try first|omega|(refine ⟨?_,?_⟩<;>omega)|exact rfl)
     simp -dsimp -implicitDefEqProofs only [go_sem,ay]
   have eb:(((t.getD (t.length-1) 0).toNat:Int) != 10)=true:=by simp only [bne_iff_ne,ne_eq];intro e;exact h10 (UInt8.toNat_inj.1 (by rw [show (10:UInt8).toNat=10 from rfl];omega))
   simp -dsimp -implicitDefEqProofs only [go_sem,ay,ec,el,ix,eb];((with_reducible and_intros);all_goals try first|omega|(refine ⟨?_,?_⟩<;>omega))
 have ec:(c != 0)=true:=by simpa using hc0
 simp -dsimp -implicitDefEqProofs only [go_sem,ay,ec]
end Go.Vc
namespace Go.Proofs.YtofpaabacebkkaaGreatDoor.fnConsoleLines
open Go.Vc Go.ChangeShapes Go.WideShapes Go.ChangeAt Go.RowKit
open Go.ChangeMaps (open_string shut_string)
set_option maxRecDepth 100000 in
theorem lifted (os:Os) (started:os.Started) (H:Type) (enc:TypeId × Value->H):
 ReturnsInHanded {} Tryz.checked os 4 .any (λw args=>(Rows.fnConsoleLinesSpec.pre enc pG Tryz.f4 [] false w args/\laidMetH pG laidAll w)/\sizedMet enc pG Tryz.f4 (OpenSpec.ofChange Rows.fnConsoleLinesSpec) false w args)
  (Rows.fnConsoleLinesSpec.post enc pG Tryz.f4 false true false false):=by
 refine H3 (C:=Tryz.checked) (X:=λw _=>laidMetH pG laidAll w) (λ_ _ _ hh h=>h.of_heap hh) own started (by kernel_rfl) func4
  (ChangeSpec.witness_shaped (enc:=enc) (C:=Tryz.checked) (os:=os) (X:=λw _=>laidMetH pG laidAll w) false (World.laidAll pG os laidAll) #[.slice none 0 0] 8 (World.laidAll_os _ _ _)
    (yj os _) (by kernel_rfl) (by kernel_rfl) (by kernel_rfl) (Fk os _)) ?_
 intro W base args ds gs before Ui hW _ _ hL hSh _;have Ta:∀(j:Nat) t v,Tryz.f4.params[j]? =some t->args[j]? =some v->Value.okWide pG W .any base t v:=Ui;have hW':=hW;obtain ⟨p,q,hA0,hV,rfl,hfz,hnd⟩:=hW;have hA:DataW.TrodAll enc pG W 0 (λ_=>true) true Tryz.f4.params.toList args.toList ds p:=hA0;rw [Tryz.params4] at hA Ta;obtain ⟨v0,vs0,d0,ds0,p0,q0,Y8,rfl,rfl,h0,r0⟩:=trodAll_cons hA;obtain ⟨rfl,rfl,rfl⟩:=trodAll_nil r0;obtain rfl:args= #[v0]:=by cases args;simp_all
 obtain ⟨rfl,rfl⟩:=trodVars_none hV;have k0:=h0;have lt0:∀x∈p0,x.block<W.heap.size:=by obtain ⟨m,hm⟩:=k0;exact DataW.trod_lt m _ _ _ hm
 obtain ⟨x0,ok0,rd0⟩:=PL.arg false (λ_=>rfl) h0 (by obtain ⟨_,e⟩:=okWide_slice underlying32 (Ta 0 32 v0 rfl rfl);obtain ⟨_,_,e⟩:=e;subst e;rfl);clear hA0 Ui
 refine (Fn.law (uk x0 (by have:=ok0.1;unfold maxLen at this;omega)) W (SA hL hSh) #[v0] rfl (λi hi=>match i,hi with
  |0,_=>rd0)).mono λe W' ⟨he,bel⟩=> ?_
 subst he;exact ⟨_,rfl,_,_,_,[],_,[],hW',trodAll_mk1 (shut_bool underlying4 _),(trodAll_cons_mk (Below.trod laidOut (by kernel_rfl) (oT (by kernel_rfl)) k0 bel lt0) trodAll_mk0),rfl,bel.frame _,λh=>by cases h⟩
end Go.Proofs.YtofpaabacebkkaaGreatDoor.fnConsoleLines
namespace Go.Proofs.YtofpaabacebkkaaGreatDoor.fnConsoleLines
open Go.Vc Go.ChangeShapes Go.WideShapes Go.ChangeAt Go.RowKit
open Go.ChangeMaps (open_string shut_string)
theorem M8:(Rows.fnConsoleLinesRow.inPlace==Tryz.pinned.checked.prog.inPlace 4)=true:=by kernel_rfl
theorem Xj:(Rows.fnConsoleLinesRow.unfollowed==Tryz.pinned.checked.prog.unfollowed 4)=true:=by kernel_rfl
end Go.Proofs.YtofpaabacebkkaaGreatDoor.fnConsoleLines
namespace Go.Proofs.YtofpaabacebkkaaGreatDoor.fnConsoleLines
open Go.Vc Go.ChangeShapes Go.WideShapes Go.ChangeAt Go.RowKit
open Go.ChangeMaps (open_string shut_string)
theorem Xk:(Rows.fnConsoleLinesRow.recurses==Tryz.pinned.checked.prog.recurses 4)=true:=by kernel_rfl
theorem S9:(Rows.fnConsoleLinesRow.named==Tryz.pinned.checked.prog.varsNamed 4)=true:=by kernel_rfl
end Go.Proofs.YtofpaabacebkkaaGreatDoor.fnConsoleLines
namespace Go.Proofs.YtofpaabacebkkaaGreatDoor.fnConsoleLines
open Go.Vc Go.ChangeShapes Go.WideShapes Go.ChangeAt Go.RowKit
open Go.ChangeMaps (open_string shut_string)
theorem closed:joinedFacts Tryz.pinned.checked.prog 4 Tryz.f4 Rows.fnConsoleLinesSpec Rows.fnConsoleLinesRow=true:=by
 unfold joinedFacts;rw [M8,Xj,Xk,S9]
 kernel_rfl
theorem holds:Rows.fnConsoleLinesRow.holds Tryz.pinned (OpenSpec.ofChange Rows.fnConsoleLinesSpec):=
 OpenClaim.holds_of_wide 4 Tryz.f4 rfl rfl rfl rfl rfl rfl rfl ⟨rfl,rfl,rfl,rfl,rfl⟩ rfl rfl rfl rfl rfl (by kernel_rfl) func4 closed
  (oT (by kernel_rfl)) (by unfold Func.isWrapper;first|(rw [if_pos (by decide+kernel)];kernel_rfl)|(rw [if_neg (by decide+kernel)];exact ⟨rfl,rfl⟩))
  (λos started H enc _=>lifted os started H enc)
end Go.Proofs.YtofpaabacebkkaaGreatDoor.fnConsoleLines
