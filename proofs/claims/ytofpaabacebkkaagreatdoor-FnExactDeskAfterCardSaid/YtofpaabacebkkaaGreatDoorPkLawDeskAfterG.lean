import Derived.Test.YtofpaabacebkkaaGreatDoorPkLawDeskAfterF
open Go.Proofs.Tryz
open Go.Proofs.Tryz renaming prog → pG
set_option linter.unusedVariables false
set_option linter.unusedSimpArgs false
set_option linter.unnecessarySimpa false
set_option maxRecDepth 1000000
set_option maxHeartbeats 16000000
open Bool renaming and_eq_true->uq0
open List renaming drop_succ_cons->uq1,drop_zero->uq2,length_cons->uq3,length_map->uq4,length_nil->uq5,map->uq6,map_cons->uq7,map_nil->uq8,mem_singleton->uq9,take_length->dD,take_of_length_le->bW,take_succ_cons->cr,take_zero->bQ
open Nat renaming reduceAdd->bB,reduceBEq->bk,reduceDiv->bR,reduceEqDiff->cK
namespace Go.Vc
open Go.Proofs
theorem V7 (m:aL) (tb:lL) (lim:Nat) (part:lL) (z:SS) (ht:tb.length<=1000) (hp:part.length=tb.length) (hp0:0<part.length) (hpx:∀x∈part,0<x.length/\x.length<=1048576) (hf:z.found.length<=20000000):
 fN pG 256 [(1900000017,.box 0 [eI m.ah,eI m.aq,eI m.step,eI m.same,eI m.least,aR tb,eI (lim:Int),eI (z.tries:Int),eB z.stop,.cy 255 [.ptr 1900000010 0 0 0,.ptr 1900000006 0 0 0]]),(1900000010,.box 0 [.ref 1900000012 z.found.length 0 z.found.length]),(1900000012,.row z.found.length ⟨1,false⟩ true (z.found.map aR)),(1900000006,.box 0 [eI 1])] [.ptr 1900000017 0 0 0,aR part,.val (.slice none 0 0)] (fun r m'=>r=eB false/\m'=[(1900000017,.box 0 [eI m.ah,eI m.aq,eI m.step,eI m.same,eI m.least,aR tb,eI (lim:Int),eI ((⟨z.tries,z.stop,z.found++[part]⟩:SS).tries:Int),eB (⟨z.tries,z.stop,z.found++[part]⟩:SS).stop,.cy 255 [.ptr 1900000010 0 0 0,.ptr 1900000006 0 0 0]]),(1900000010,.box 0 [.ref 1900000012 (⟨z.tries,z.stop,z.found++[part]⟩:SS).found.length 0 (⟨z.tries,z.stop,z.found++[part]⟩:SS).found.length]),(1900000012,.row (⟨z.tries,z.stop,z.found++[part]⟩:SS).found.length ⟨1,false⟩ true ((⟨z.tries,z.stop,z.found++[part]⟩:SS).found.map aR)),(1900000006,.box 0 [eI 1])]):=by
 refine fN.dM 39 [.tmp 6] func256 (hv:= ?_);have hcp:=fG part (by omega) hpx;obtain ⟨tries,stop,found⟩:=z;simp only at hf ⊢;have e:((part.length:Int)==(tb.length:Int))=true:=by rw [hp];simp
 have eD:decide (((found.length+1:Nat):Int)<1)=false:=dF (by omega);have eM:(found++[part]).map aR=found.map aR++[aR part]:=by simp
 have eL:(found++[part]).length=found.length+1:=by simp
 have eSet:∀u,(found.map aR++[AV.val u]).set found.length (.arr ⟨1,false⟩ (part.map aM))=found.map aR++[aR part]:=fun u=>by rw [List.set_append_right _ _ (by simp)];simp
 simp -dsimp -implicitDefEqProofs only [go_sem];refine ak.draw mixed rfl ?_;simp -dsimp -implicitDefEqProofs only [go_sem,e];refine ⟨by exact rfl,?_⟩;refine ak.ly 5 mixed rfl ?_;(simp -dsimp -implicitDefEqProofs only [cr,bQ,uq1,uq2]);simp -dsimp -implicitDefEqProofs only [go_sem];refine ⟨by exact rfl,?_⟩;refine cn 430000 14 [.tmp 4] func255 rfl rfl rfl rfl rfl (by exact oT rfl) ?_;simp -dsimp -implicitDefEqProofs only [go_sem];refine ak.VI ?_;refine ak.any mixed rfl ?_;refine cD [0,1] rfl ⟨?_,?_,trivial⟩
 . (simp -dsimp -implicitDefEqProofs only [cr,bQ,uq2]);simp -dsimp -implicitDefEqProofs only [go_sem];(refine nw.go ?_;refine cD [1] rfl ⟨?_,trivial⟩;(simp -dsimp -implicitDefEqProofs only [cr,bQ,uq1,uq2]);simp -dsimp -implicitDefEqProofs only [go_sem]);(refine nw.go ?_;refine cD [2] rfl ⟨?_,trivial⟩;(simp -dsimp -implicitDefEqProofs only [cr,bQ,uq1,uq2]);simp -dsimp -implicitDefEqProofs only [go_sem]);refine ab hcp ?_;simp -dsimp -implicitDefEqProofs only [go_sem];refine nw.known 7 8000 0 part.length ⟨1,false⟩ _ rfl (by decide) rfl (by simp) hp0 (by decide) fun u=> ?_;refine cD [3] rfl ⟨?_,trivial⟩;(simp -dsimp -implicitDefEqProofs only [cr,bQ,uq1,uq2]);simp -dsimp -implicitDefEqProofs only [go_sem];(refine nw.go ?_;refine cD [4] rfl ⟨?_,trivial⟩;(simp -dsimp -implicitDefEqProofs only [cr,bQ,uq1,uq2]);simp -dsimp -implicitDefEqProofs only [go_sem]);((with_reducible and_intros);all_goals try (omega));(refine nw.go ?_;refine cD [5] rfl ⟨?_,trivial⟩;(simp -dsimp -implicitDefEqProofs only [cr,bQ,uq1,uq2]);simp -dsimp -implicitDefEqProofs only [go_sem]);((refine nw.go ?_);refine ss ?_;refine nw.go ?_;refine hk.back 1900000012 (found.length+1) found.length 8000 0 _ _ _ u (by decide) rfl (by simp) rfl ?_;(rw [eSet u]);refine hk.go ?_;simp -dsimp -implicitDefEqProofs only [go_sem,eD];refine ⟨_,rfl,aN ?_ ?_⟩;(simp -dsimp -implicitDefEqProofs only [go_sem,eM]);(simp -dsimp -implicitDefEqProofs only [go_sem];simp [ao,au,ct]))
 (simp -dsimp -implicitDefEqProofs only [cr,bQ,uq1,uq2]);simp -dsimp -implicitDefEqProofs only [go_sem];refine nw.go ?_;refine cD [0,2] rfl ⟨?_,?_,trivial⟩
 . (simp -dsimp -implicitDefEqProofs only [cr,bQ,uq2]);simp -dsimp -implicitDefEqProofs only [go_sem];(refine nw.go ?_;refine cD [2] rfl ⟨?_,trivial⟩;(simp -dsimp -implicitDefEqProofs only [cr,bQ,uq1,uq2]);simp -dsimp -implicitDefEqProofs only [go_sem]);refine ab hcp ?_;simp -dsimp -implicitDefEqProofs only [go_sem];refine nw.known 7 8000 0 part.length ⟨1,false⟩ _ rfl (by decide) rfl (by simp) hp0 (by decide) fun u=> ?_;refine cD [3] rfl ⟨?_,trivial⟩;(simp -dsimp -implicitDefEqProofs only [cr,bQ,uq1,uq2]);simp -dsimp -implicitDefEqProofs only [go_sem];(refine nw.go ?_;refine cD [4] rfl ⟨?_,trivial⟩;(simp -dsimp -implicitDefEqProofs only [cr,bQ,uq1,uq2]);simp -dsimp -implicitDefEqProofs only [go_sem]);((with_reducible and_intros);all_goals try (omega));(refine nw.go ?_;refine cD [5] rfl ⟨?_,trivial⟩;(simp -dsimp -implicitDefEqProofs only [cr,bQ,uq1,uq2]);simp -dsimp -implicitDefEqProofs only [go_sem]);((refine nw.go ?_);refine ss ?_;refine nw.go ?_;refine hk.back 1900000012 (found.length+1) found.length 8000 0 _ _ _ u (by decide) rfl (by simp) rfl ?_;(rw [eSet u]);refine hk.go ?_;simp -dsimp -implicitDefEqProofs only [go_sem,eD];refine ⟨_,rfl,aN ?_ ?_⟩;(simp -dsimp -implicitDefEqProofs only [go_sem,eM]);(simp -dsimp -implicitDefEqProofs only [go_sem];simp [ao,au,ct]))
 (simp -dsimp -implicitDefEqProofs only [cr,bQ,uq1,uq2]);simp -dsimp -implicitDefEqProofs only [go_sem];refine ab hcp ?_;simp -dsimp -implicitDefEqProofs only [go_sem];refine nw.known 7 8000 0 part.length ⟨1,false⟩ _ rfl (by decide) rfl (by simp) hp0 (by decide) fun u=> ?_;refine cD [0,3] rfl ⟨?_,?_,trivial⟩
 . (simp -dsimp -implicitDefEqProofs only [cr,bQ,uq2]);simp -dsimp -implicitDefEqProofs only [go_sem];(refine nw.go ?_;refine cD [3] rfl ⟨?_,trivial⟩;(simp -dsimp -implicitDefEqProofs only [cr,bQ,uq1,uq2]);simp -dsimp -implicitDefEqProofs only [go_sem]);(refine nw.go ?_;refine cD [4] rfl ⟨?_,trivial⟩;(simp -dsimp -implicitDefEqProofs only [cr,bQ,uq1,uq2]);simp -dsimp -implicitDefEqProofs only [go_sem]);((with_reducible and_intros);all_goals try (omega));(refine nw.go ?_;refine cD [5] rfl ⟨?_,trivial⟩;(simp -dsimp -implicitDefEqProofs only [cr,bQ,uq1,uq2]);simp -dsimp -implicitDefEqProofs only [go_sem]);((refine nw.go ?_);refine ss ?_;refine nw.go ?_;refine hk.back 1900000012 (found.length+1) found.length 8000 0 _ _ _ u (by decide) rfl (by simp) rfl ?_;(rw [eSet u]);refine hk.go ?_;simp -dsimp -implicitDefEqProofs only [go_sem,eD];refine ⟨_,rfl,aN ?_ ?_⟩;(simp -dsimp -implicitDefEqProofs only [go_sem,eM]);(simp -dsimp -implicitDefEqProofs only [go_sem];simp [ao,au,ct]))
 (simp -dsimp -implicitDefEqProofs only [cr,bQ,uq1,uq2]);simp -dsimp -implicitDefEqProofs only [go_sem];(refine nw.go ?_;refine cD [0] rfl ⟨?_,trivial⟩;(simp -dsimp -implicitDefEqProofs only [cr,bQ,uq2]);simp -dsimp -implicitDefEqProofs only [go_sem]);(refine nw.go ?_;refine cD [4] rfl ⟨?_,trivial⟩;(simp -dsimp -implicitDefEqProofs only [cr,bQ,uq1,uq2]);simp -dsimp -implicitDefEqProofs only [go_sem]);((with_reducible and_intros);all_goals try (omega));(refine nw.go ?_;refine cD [5] rfl ⟨?_,trivial⟩;(simp -dsimp -implicitDefEqProofs only [cr,bQ,uq1,uq2]);simp -dsimp -implicitDefEqProofs only [go_sem]);((refine nw.go ?_);refine ss ?_;refine nw.go ?_;refine hk.back 1900000012 (found.length+1) found.length 8000 0 _ _ _ u (by decide) rfl (by simp) rfl ?_;(rw [eSet u]);refine hk.go ?_;simp -dsimp -implicitDefEqProofs only [go_sem,eD];refine ⟨_,rfl,aN ?_ ?_⟩;(simp -dsimp -implicitDefEqProofs only [go_sem,eM]);(simp -dsimp -implicitDefEqProofs only [go_sem];simp [ao,au,ct]))
theorem Jh (m:Mem) (sh:Sh) (xs:lA) (i j:Nat) (k:AV->Prop):iz m (.bu sh xs i j) k=k (.bu sh xs i j):=rfl
attribute [go_sem] Jh
theorem gZ (m:aL) (tb ae:lL):au (oh m tb ae)=[]:=rfl
theorem QL (m:aL) (tb ae:lL) (m1 m2:Mem):xp m1 m2 (oh m tb ae) (oh m tb ae)=True:=by simp [oh,xp,jN,leaf]
theorem Nl {α:Type} (m m2:Mem) (v v2:Nat) (sh:Sh) (zs:List α) (xs xs2:lA):xr m m2 (some (.row v sh zs.isEmpty xs)) (.row v2 sh zs.isEmpty xs2)=(xs=xs2):=by simp [xr]
theorem Tx (l l2:Nat) (m:aL) (tb ae:lL):qi l l2 (oh m tb ae)=oh m tb ae:=by simp [oh,qi,iR]
attribute [go_sem] gZ QL Nl Tx
def V8 (lim bz b:Nat) (st:SS × Bool):Prop:=st.1.tries<=lim/\st.1.found.length<=bz+b
theorem GM (lim bz:Nat):∀a b s,a<=b->V8 lim bz a s->V8 lim bz b s:=fun a b s h hs=>⟨hs.1,by have:=hs.2;omega⟩
theorem QM (m:aL) (tb:lL) (lim d bz:Nat) (part:lL):∀b s k,V8 lim bz b s->V8 lim bz (b+1) (gF m tb lim part (gg m tb lim d) s k).1:=fun b s k h=>by obtain ⟨g1,_,g3,_⟩:=Ux (m:=m) (part:=part) (fun p z h=>Dv m tb lim d p z h) s k h.1;exact ⟨g1,by have:=h.2;omega⟩
structure YT (m:aL) (tb:lL) (lim d bz:Nat) (part:lL):Prop where
 pR:a6 m=true
 tl:tb.length<=1000
 row:∀i (hi:i<tb.length),tb[i].length=(tb.getD 0 []).length
 wd:(tb.getD 0 []).length<=1000
 pl:part.length+(d+1)=tb.length
 px:∀x∈part,(x.length:Int)=m.ah/\∀y∈x,0<=y/\y<m.aq
 lm:lim<=4000
 fb:bz+(d+1)*1000000<=20000000
def QN (m:aL) (tb:lL) (lim d:Nat):Prop:=∀(part:lL) (z:SS),part.length+d=tb.length->(∀x∈part,(x.length:Int)=m.ah/\∀y∈x,0<=y/\y<m.aq)->z.tries<=lim->z.found.length+d*1000000<=20000000→
    fN pG 256 [(1900000017,.box 0 [eI m.ah,eI m.aq,eI m.step,eI m.same,eI m.least,aR tb,eI (lim:Int),eI (z.tries:Int),eB z.stop,.cy 255 [.ptr 1900000010 0 0 0,.ptr 1900000006 0 0 0]]),(1900000010,.box 0 [.ref 1900000012 z.found.length 0 z.found.length]),(1900000012,.row z.found.length ⟨1,false⟩ true (z.found.map aR)),(1900000006,.box 0 [eI 1])] [.ptr 1900000017 0 0 0,aR part,.val (.slice none 0 0)] (fun r m'=>r=eB (gg m tb lim d part z).1/\m'=[(1900000017,.box 0 [eI m.ah,eI m.aq,eI m.step,eI m.same,eI m.least,aR tb,eI (lim:Int),eI (((gg m tb lim d part z).2).tries:Int),eB ((gg m tb lim d part z).2).stop,.cy 255 [.ptr 1900000010 0 0 0,.ptr 1900000006 0 0 0]]),(1900000010,.box 0 [.ref 1900000012 ((gg m tb lim d part z).2).found.length 0 ((gg m tb lim d part z).2).found.length]),(1900000012,.row ((gg m tb lim d part z).2).found.length ⟨1,false⟩ true (((gg m tb lim d part z).2).found.map aR)),(1900000006,.box 0 [eI 1])])
theorem XK (m:aL) (tb:lL) (lim d bz:Nat) (part:lL) (hG:YT m tb lim d bz part) (hIH:QN m tb lim d) (c:lI) (af:Nat) (ys:lA) (st:SS × Bool) (hc:(c.length:Int)=m.ah) (hcx:∀x∈c,0<=x/\x<m.aq) (hy:ys.take c.length=c.map eI) (hs:∃b:Nat,V8 lim bz b st/\b+1<=1000000):
 fN pG 271 [(1700000010,.row af ⟨1,false⟩ true ys),(1600000003,.box 0 [.ptr 1900000017 0 0 0]),(1600000004,.box 0 [aR part]),(1600000005,.box 0 [.val (.slice none 0 0)]),(1600000007,.box 0 [eB st.2]),(1600000008,.box 0 [.cy 280 (oh m tb part)]),(1900000017,.box 0 [eI m.ah,eI m.aq,eI m.step,eI m.same,eI m.least,aR tb,eI (lim:Int),eI (st.1.tries:Int),eB st.1.stop,.cy 255 [.ptr 1900000010 0 0 0,.ptr 1900000006 0 0 0]]),(1900000010,.box 0 [.ref 1900000012 st.1.found.length 0 st.1.found.length]),(1900000012,.row st.1.found.length ⟨1,false⟩ true (st.1.found.map aR)),(1900000006,.box 0 [eI 1])] [.ref 1700000010 af 0 c.length,.ptr 1600000005 0 0 0,.ptr 1600000003 0 0 0,.ptr 1600000007 0 0 0,.ptr 1600000008 0 0 0,.ptr 1600000004 0 0 0]
  (fun r m'=>r=eB (gF m tb lim part (gg m tb lim d) st c).2/\m'=[(1700000010,.row af ⟨1,false⟩ true ys),(1600000003,.box 0 [.ptr 1900000017 0 0 0]),(1600000004,.box 0 [aR part]),(1600000005,.box 0 [.val (.slice none 0 0)]),(1600000007,.box 0 [eB ((gF m tb lim part (gg m tb lim d) st c).1).2]),(1600000008,.box 0 [.cy 280 (oh m tb part)]),(1900000017,.box 0 [eI m.ah,eI m.aq,eI m.step,eI m.same,eI m.least,aR tb,eI (lim:Int),eI ((((gF m tb lim part (gg m tb lim d) st c).1).1).tries:Int),eB (((gF m tb lim part (gg m tb lim d) st c).1).1).stop,.cy 255 [.ptr 1900000010 0 0 0,.ptr 1900000006 0 0 0]]),(1900000010,.box 0 [.ref 1900000012 (((gF m tb lim part (gg m tb lim d) st c).1).1).found.length 0 (((gF m tb lim part (gg m tb lim d) st c).1).1).found.length]),(1900000012,.row (((gF m tb lim part (gg m tb lim d) st c).1).1).found.length ⟨1,false⟩ true ((((gF m tb lim part (gg m tb lim d) st c).1).1).found.map aR)),(1900000006,.box 0 [eI 1])]):=by
 refine fN.dM 46 [.tmp 7] func271 (hv:= ?_);have ky:=aO hG.pR;have hst:=QK m tb part c hG.pR hG.tl (by have:=hG.pl;omega) hG.row hG.wd (fun x hx=>(hG.px x hx).1) hc;have hyl:c.length<=ys.length:=by have:=congrArg List.length hy;simp at this;omega
 obtain ⟨b,⟨hs1,hs2⟩,hs3⟩:=hs;obtain ⟨⟨tries,stop,found⟩,more⟩:=st;simp only at hs1 hs2 ⊢;unfold gF;simp only;have hlm:=hG.lm;have eT:((tries+1:Nat):Int)=(tries:Int)+1:=by omega
 rcases e1:((tries:Int)==(lim:Int)) with _|_
 . rcases e2:nR m tb part c with _|_
   . rw [e2] at hst;unfold oh at hst ⊢;simp -dsimp -implicitDefEqProofs only [go_sem];refine ak.draw mixed rfl ?_;simp -dsimp -implicitDefEqProofs only [go_sem,e1];refine ⟨by exact rfl,⟨by omega,by omega⟩,hyl,?_⟩;simp -dsimp -implicitDefEqProofs only [go_sem,hy];refine ab hst ?_;simp -dsimp -implicitDefEqProofs only [go_sem];refine ⟨_,rfl,aN ?_ ?_⟩
     . simp -dsimp -implicitDefEqProofs only [go_sem,eT]
     simp -dsimp -implicitDefEqProofs only [go_sem];simp [ao,au,ct]
   rw [e2] at hst;unfold oh at hst ⊢;have hcl:=QG part (by have:=hG.pl;have:=hG.tl;omega);have hck:=yp c (by omega);simp -dsimp -implicitDefEqProofs only [go_sem];refine ak.draw mixed rfl ?_;simp -dsimp -implicitDefEqProofs only [go_sem,e1];refine ⟨by exact rfl,⟨by omega,by omega⟩,hyl,?_⟩;simp -dsimp -implicitDefEqProofs only [go_sem,hy];refine ab hst ?_;simp -dsimp -implicitDefEqProofs only [go_sem];refine ak.ly 7 mixed rfl ?_;simp -dsimp -implicitDefEqProofs only [cr,bQ,uq1,uq2];simp -dsimp -implicitDefEqProofs only [go_sem];refine kR hcl (by decide) rfl (by decide) ?_;simp -dsimp -implicitDefEqProofs only [go_sem,hy,uq2];refine ⟨hyl,?_⟩;(refine an (hck) ?_;try simp -dsimp -implicitDefEqProofs only [go_sem, *])
   have lu:=hIH (part++[c]) ⟨tries+1,stop,found⟩ (by have:=hG.pl;simp;omega) (fun x hx=>by
    rcases List.mem_append.1 hx with hx|hx
    . exact hG.px x hx
    . rw [uq9] at hx;subst hx;exact ⟨hc,hcx⟩) (by
    have:tries≠lim:=fun e=>by rw [e] at e1;simp at e1
    simp only;omega) (by have:=hG.fb;simp only;omega)
   have eM:(part++[c]).map aM=part.map aM++[aM c]:=by simp
   refine .inr ⟨by have:=hG.pl;have:=hG.tl;omega,by exact rfl,?_⟩
   refine Ix 40000 1 ⟨1,false⟩ false (part.map aM++[aM c]) [.ptr 1900000017 0 0 0,aR (part++[c]),.val (.slice none 0 0)] (by decide) rfl
    (FM (by simp [ao]) (Mq 0 (part.length+1) (by simp) (by rw [uq2,bW (by simp),←eM]) (FM (by simp [ao]) Mr))) ?_
   refine Ms lu ⟨⟨?_,?_⟩,?_,?_⟩ ?_
   . simp -dsimp -implicitDefEqProofs only [go_sem]
   . simp -dsimp -implicitDefEqProofs only [go_sem];simp [ao,au,ct]
   . simp -dsimp -implicitDefEqProofs only [go_sem,eT]
   . simp -dsimp -implicitDefEqProofs only [go_sem];simp
   rintro r m' ⟨hr,hm'⟩;rw [hr,hm'];generalize gg m tb lim d (part++[c]) ⟨tries+1,stop,found⟩=w at*;simp -dsimp -implicitDefEqProofs only [go_sem];refine ⟨_,rfl,aN ?_ ?_⟩
   . simp -dsimp -implicitDefEqProofs only [go_sem]
   simp -dsimp -implicitDefEqProofs only [go_sem];simp [ao,au,ct]
 unfold oh;simp -dsimp -implicitDefEqProofs only [go_sem];refine ak.draw mixed rfl ?_;simp -dsimp -implicitDefEqProofs only [go_sem,e1];refine ⟨by exact rfl,_,rfl,aN ?_ ?_⟩
 . simp -dsimp -implicitDefEqProofs only [go_sem]
 simp -dsimp -implicitDefEqProofs only [go_sem];simp [ao,au,ct]
theorem XL (m:aL) (hm:a6 m=true) (tb:lL) (lim d bz:Nat) (part:lL) (hG:YT m tb lim d bz part) (hIH:QN m tb lim d):∀(n:Nat) (c:lI) (t:KS (SS × Bool)),(c.length:Int)+n=m.ah->(∀x∈c,0<=x/\x<m.aq)->DS c t->(∃b:Nat,V8 lim bz b t.s/\b+8^n<=1000000)→
 fN pG 262 [(1700000008,.box 0 [.ref 1700000010 t.af 0 c.length]),(1700000010,.row t.af ⟨1,false⟩ true (t.zs.map eI)),(1700000004,.box 0 [eI m.ah,eI m.aq,eI m.step,eI m.same,eI m.least]),(1700000007,.box 0 [.cy 271 [.ptr 1600000005 0 0 0,.ptr 1600000003 0 0 0,.ptr 1600000007 0 0 0,.ptr 1600000008 0 0 0,.ptr 1600000004 0 0 0]]),(1700000005,.box 0 [.val (.slice none 0 0)]),(1700000006,.box 0 [.val .nilFunc]),(1700000009,.box 0 [.cy 262 [.ptr 1700000008 0 0 0,.ptr 1700000004 0 0 0,.ptr 1700000007 0 0 0,.ptr 1700000005 0 0 0,.ptr 1700000006 0 0 0,.ptr 1700000009 0 0 0]]),(1600000003,.box 0 [.ptr 1900000017 0 0 0]),(1600000004,.box 0 [aR part]),(1600000005,.box 0 [.val (.slice none 0 0)]),(1600000007,.box 0 [eB t.s.2]),(1600000008,.box 0 [.cy 280 (oh m tb part)]),(1900000017,.box 0 [eI m.ah,eI m.aq,eI m.step,eI m.same,eI m.least,aR tb,eI (lim:Int),eI (t.s.1.tries:Int),eB t.s.1.stop,.cy 255 [.ptr 1900000010 0 0 0,.ptr 1900000006 0 0 0]]),(1900000010,.box 0 [.ref 1900000012 t.s.1.found.length 0 t.s.1.found.length]),(1900000012,.row t.s.1.found.length ⟨1,false⟩ true (t.s.1.found.map aR)),(1900000006,.box 0 [eI 1])] [eB false,.ptr 1700000008 0 0 0,.ptr 1700000004 0 0 0,.ptr 1700000007 0 0 0,.ptr 1700000005 0 0 0,.ptr 1700000006 0 0 0,.ptr 1700000009 0 0 0]
  (fun r m'=>r=eB (bt m (gF m tb lim part (gg m tb lim d)) n c t).2/\m'=[(1700000008,.box 0 [.ref 1700000010 (bt m (gF m tb lim part (gg m tb lim d)) n c t).1.af 0 c.length]),(1700000010,.row (bt m (gF m tb lim part (gg m tb lim d)) n c t).1.af ⟨1,false⟩ true ((bt m (gF m tb lim part (gg m tb lim d)) n c t).1.zs.map eI)),(1700000004,.box 0 [eI m.ah,eI m.aq,eI m.step,eI m.same,eI m.least]),(1700000007,.box 0 [.cy 271 [.ptr 1600000005 0 0 0,.ptr 1600000003 0 0 0,.ptr 1600000007 0 0 0,.ptr 1600000008 0 0 0,.ptr 1600000004 0 0 0]]),(1700000005,.box 0 [.val (.slice none 0 0)]),(1700000006,.box 0 [.val .nilFunc]),(1700000009,.box 0 [.cy 262 [.ptr 1700000008 0 0 0,.ptr 1700000004 0 0 0,.ptr 1700000007 0 0 0,.ptr 1700000005 0 0 0,.ptr 1700000006 0 0 0,.ptr 1700000009 0 0 0]]),(1600000003,.box 0 [.ptr 1900000017 0 0 0]),(1600000004,.box 0 [aR part]),(1600000005,.box 0 [.val (.slice none 0 0)]),(1600000007,.box 0 [eB ((bt m (gF m tb lim part (gg m tb lim d)) n c t).1.s).2]),(1600000008,.box 0 [.cy 280 (oh m tb part)]),(1900000017,.box 0 [eI m.ah,eI m.aq,eI m.step,eI m.same,eI m.least,aR tb,eI (lim:Int),eI (((bt m (gF m tb lim part (gg m tb lim d)) n c t).1.s).1.tries:Int),eB ((bt m (gF m tb lim part (gg m tb lim d)) n c t).1.s).1.stop,.cy 255 [.ptr 1900000010 0 0 0,.ptr 1900000006 0 0 0]]),(1900000010,.box 0 [.ref 1900000012 ((bt m (gF m tb lim part (gg m tb lim d)) n c t).1.s).1.found.length 0 ((bt m (gF m tb lim part (gg m tb lim d)) n c t).1.s).1.found.length]),(1900000012,.row ((bt m (gF m tb lim part (gg m tb lim d)) n c t).1.s).1.found.length ⟨1,false⟩ true (((bt m (gF m tb lim part (gg m tb lim d)) n c t).1.s).1.found.map aR)),(1900000006,.box 0 [eI 1])]):=by
 intro n;have ⟨⟨zO,zP⟩,hd1,hd2⟩:=aO hm;induction n with
 |zero=>
  intro c t hl hc hz hs;have hk:((c.length:Int)==m.ah)=true:=beq_iff_eq.2 (by omega);have ht:List.take c.length (uq6 eI t.zs)=uq6 eI c:=by rw [←List.map_take,hz.1]
  have hzl:c.length<=(uq6 eI t.zs).length:=by simpa using hz.2
  refine fN.dM 91 [.tmp 8] func262 (hv:= ?_);simp -dsimp -implicitDefEqProofs only [go_sem,hk];refine ak.ly 8 mixed rfl ?_;simp -dsimp -implicitDefEqProofs only [cr,bQ,uq1,uq2];have sR:=iE c (by omega);rcases hq:decide ((bq c c.length:Int)<m.least) with _|_
  . have hq':=of_decide_eq_false hq;have eW:bt m (gF m tb lim part (gg m tb lim d)) 0 c t=(⟨t.af,t.zs,((gF m tb lim part (gg m tb lim d)) t.s c).1⟩,((gF m tb lim part (gg m tb lim d)) t.s c).2):=by rw [bt,if_neg hq']
    rw [eW];simp -dsimp -implicitDefEqProofs only [go_sem,ht,uq2];refine ⟨hz.2,?_⟩;(refine an (sR) ?_;try simp -dsimp -implicitDefEqProofs only [go_sem, *]);refine ⟨by exact rfl,hz.2,?_⟩;refine c7 (XK m tb lim d bz part hG hIH c t.af (t.zs.map eI) t.s (by omega) hc ht (by simpa using hs)) ⟨⟨?_,?_⟩,?_,?_⟩ ?_
    . simp -dsimp -implicitDefEqProofs only [go_sem]
    . simp -dsimp -implicitDefEqProofs only [go_sem];simp [ao,au,ct,gZ]
    . simp -dsimp -implicitDefEqProofs only [go_sem]
    . simp -dsimp -implicitDefEqProofs only [go_sem];simp
    rintro r m' ⟨hr,hm'⟩;rw [hr,hm'];simp -dsimp -implicitDefEqProofs only [go_sem];refine ⟨_,rfl,aN ?_ ?_⟩
    . simp -dsimp -implicitDefEqProofs only [go_sem]
    simp -dsimp -implicitDefEqProofs only [go_sem];simp [ao,au,ct,gZ]
  have hq':=oT hq;have eW:bt m (gF m tb lim part (gg m tb lim d)) 0 c t=(t,true):=by rw [bt,if_pos hq']
  rw [eW];simp -dsimp -implicitDefEqProofs only [go_sem,ht,uq2];refine ⟨hz.2,?_⟩;(refine an (sR) ?_;try simp -dsimp -implicitDefEqProofs only [go_sem, *]);refine ⟨by exact rfl,_,rfl,aN ?_ ?_⟩
  . simp -dsimp -implicitDefEqProofs only [go_sem]
  simp -dsimp -implicitDefEqProofs only [go_sem];simp [ao,au,ct,gZ]
 |succ n ih=>
  intro c t hl hc hz hs;have hk:((c.length:Int)==m.ah)=false:=beq_eq_false_iff_ne.2 (by omega);refine fN.dM 91 [.tmp 8] func262 (hv:= ?_);simp -dsimp -implicitDefEqProofs only [go_sem,hk];refine ak.up [0,1,2,5,6,9,10] [47,61,69,70,72,84] [1700000008,1700000010,1600000007,1900000017,1900000010,1900000012] m.aq.toNat (fun i=>(eJ (aX m (gF m tb lim part (gg m tb lim d)) n c) t i).2=true) (fun i=>[(11,eI i)]) (fun i=>[(1700000008,.box 0 [.ref 1700000010 (eJ (aX m (gF m tb lim part (gg m tb lim d)) n c) t i).1.af 0 c.length]),(1700000010,.row (eJ (aX m (gF m tb lim part (gg m tb lim d)) n c) t i).1.af ⟨1,false⟩ true ((eJ (aX m (gF m tb lim part (gg m tb lim d)) n c) t i).1.zs.map eI)),(1600000007,.box 0 [eB ((eJ (aX m (gF m tb lim part (gg m tb lim d)) n c) t i).1.s).2]),(1900000017,.box 0 [eI m.ah,eI m.aq,eI m.step,eI m.same,eI m.least,aR tb,eI (lim:Int),eI (((eJ (aX m (gF m tb lim part (gg m tb lim d)) n c) t i).1.s).1.tries:Int),eB ((eJ (aX m (gF m tb lim part (gg m tb lim d)) n c) t i).1.s).1.stop,.cy 255 [.ptr 1900000010 0 0 0,.ptr 1900000006 0 0 0]]),(1900000010,.box 0 [.ref 1900000012 ((eJ (aX m (gF m tb lim part (gg m tb lim d)) n c) t i).1.s).1.found.length 0 ((eJ (aX m (gF m tb lim part (gg m tb lim d)) n c) t i).1.s).1.found.length]),(1900000012,.row ((eJ (aX m (gF m tb lim part (gg m tb lim d)) n c) t i).1.s).1.found.length ⟨1,false⟩ true (((eJ (aX m (gF m tb lim part (gg m tb lim d)) n c) t i).1.s).1.found.map aR))]) rfl ?_ rfl (fun i hi hI=> ?_) (fun hI=> ?_)
  . simp -dsimp -implicitDefEqProofs only [go_sem];simp [eJ]
  . have hu:DS c (eJ (aX m (gF m tb lim part (gg m tb lim d)) n c) t i).1:=pN hz i;have ku:∃b:Nat,V8 lim bz b (eJ (aX m (gF m tb lim part (gg m tb lim d)) n c) t i).1.s/\b+8^n<=1000000:=by
     obtain ⟨b0,hJ0,hb0⟩:=hs;refine ⟨b0+i*8^n,Gr (GM lim bz) (fun c' t' b'=>yW hm (GM lim bz) (QM m tb lim d bz part) n c' t' b') t b0 hJ0 i,?_⟩;have h8:(i+1)*8^n<=8*8^n:=Nat.mul_le_mul_right _ (by omega);have h9:(i+1)*8^n=i*8^n+8^n:=Nat.succ_mul i (8^n);have h10:8^(n+1)=8*8^n:=by rw [Nat.pow_succ,Nat.mul_comm]
     omega
    have hlt:decide ((i:Int)<m.aq)=true:=dT (by omega);have hS:=iX hI;have cF:(aX m (gF m tb lim part (gg m tb lim d)) n c i (eJ (aX m (gF m tb lim part (gg m tb lim d)) n c) t i).1).2=false->bt m (gF m tb lim part (gg m tb lim d)) (n+1) c t=aX m (gF m tb lim part (gg m tb lim d)) n c i (eJ (aX m (gF m tb lim part (gg m tb lim d)) n c) t i).1:=fun h=>by rw [←hS] at h ⊢;rw [dS,o1 h m.aq.toNat (by omega)]
    rw [hS];clear hS hI;generalize (eJ (aX m (gF m tb lim part (gg m tb lim d)) n c) t i).1=u at*;obtain ⟨hu1,hu2⟩:=hu;have htk:List.take c.length (uq6 eI u.zs)=uq6 eI c:=by rw [←List.map_take,hu1]
    have hcl:c.length<=6:=by omega
    have hih:=ih (c++[(i:Int)]) ⟨u.af+1,c++[(i:Int)],u.s⟩ (by simp;omega) (fun x hx=>by
     rcases List.mem_append.1 hx with h|h
     . exact hc x h
     simp at h;omega) ⟨dD,Nat.le_refl _⟩ ku
    simp only [List.length_append,uq3,uq5,Nat.zero_add] at hih;have cO:=kC (c++[(i:Int)]) (by simp) (by simp;omega);simp only [List.length_append,uq3,uq5,Nat.zero_add,Nat.add_sub_cancel] at cO;have ot:uq6 eI c++[eI (i:Int)]=uq6 eI (c++[(i:Int)]):=by simp
    have l4:bP m c i=(c.isEmpty|| !decide (fg ((i:Int)-c.getD (c.length-1) 0)>m.step)):=by
     unfold bP;congr 1;by_cases h:fg ((i:Int)-c.getD (c.length-1) 0)<=m.step
     . rw [decide_eq_true h,decide_eq_false (by omega)];rfl
     rw [decide_eq_false h,decide_eq_true (by omega)];rfl
    have dK:gb m c i= !decide ((ba (c++[(i:Int)]) c.length:Int)>m.same):=by
     unfold gb;by_cases h:(ba (c++[(i:Int)]) c.length:Int)<=m.same
     . rw [decide_eq_true h,decide_eq_false (by omega)];rfl
     rw [decide_eq_false h,decide_eq_true (by omega)];rfl
    simp -dsimp -implicitDefEqProofs only [pz,bk,bR,bB,↓reduceIte,cK];simp -dsimp -implicitDefEqProofs only [go_sem,hlt];refine ak.draw mixed rfl ?_;have hfn:rz pG 216 .neq=some false:=rfl;rcases hk0:decide ((c.length:Int)>0) with _|_
    . have hce:c=[]:=by
       have:=of_decide_eq_false hk0;exact List.eq_nil_of_length_eq_zero (by omega)
      have hsT:bP m c i=true:=by rw [hce];rfl
      clear hce;simp -dsimp -implicitDefEqProofs only [go_sem,hfn,hk0];refine ⟨by exact rfl,hu2,by omega,?_⟩;refine ak.ly 13 mixed rfl ?_;simp -dsimp -implicitDefEqProofs only [cr,bQ,uq1,uq2];have htl:List.take (c.length+1) (uq6 eI (c++[(i:Int)]))=uq6 eI (c++[(i:Int)]):=bW (by simp);rcases hq2:decide ((ba (c++[(i:Int)]) c.length:Int)>m.same) with _|_
      . have hcB:aX m (gF m tb lim part (gg m tb lim d)) n c i u=bt m (gF m tb lim part (gg m tb lim d)) n (c++[(i:Int)]) ⟨u.af+1,c++[(i:Int)],u.s⟩:=by rw [aX,if_pos hsT,if_pos (by rw [dK,hq2];rfl),hu1]
        rw [hcB] at cF ⊢;clear hcB;generalize bt m (gF m tb lim part (gg m tb lim d)) n (c++[(i:Int)]) ⟨u.af+1,c++[(i:Int)],u.s⟩=w at*;obtain ⟨w,b⟩:=w;simp -dsimp -implicitDefEqProofs only [go_sem,htk,ot,htl];(refine an (cO) ?_;try simp -dsimp -implicitDefEqProofs only [go_sem, *]);refine ⟨by exact rfl,?_⟩;refine c7 hih ⟨⟨?_,?_⟩,?_,?_⟩ ?_
        . simp -dsimp -implicitDefEqProofs only [go_sem]
        . simp -dsimp -implicitDefEqProofs only [go_sem];simp [ao,au,ct,gZ]
        . simp -dsimp -implicitDefEqProofs only [go_sem]
        . simp -dsimp -implicitDefEqProofs only [go_sem];simp
        rintro r m' ⟨hr,hm'⟩;rw [hr,hm'];clear hr hm';cases b with
        |false=>
         rw [cF rfl];simp -dsimp -implicitDefEqProofs only [go_sem];refine ⟨by omega,_,rfl,aN ?_ ?_⟩
         . simp -dsimp -implicitDefEqProofs only [go_sem]
         simp -dsimp -implicitDefEqProofs only [go_sem];simp [ao,au,ct,gZ]
        |true=>
         simp -dsimp -implicitDefEqProofs only [go_sem];exact ⟨by omega,⟨by omega,by omega⟩,by simp⟩
      have hcB:aX m (gF m tb lim part (gg m tb lim d)) n c i u=(⟨u.af+1,c++[(i:Int)],u.s⟩,true):=by rw [aX,if_pos hsT,if_neg (by rw [dK,hq2];exact fun h=>by cases h),hu1]
      rw [hcB];clear hcB cF;simp -dsimp -implicitDefEqProofs only [go_sem,htk,ot,htl];(refine an (cO) ?_;try simp -dsimp -implicitDefEqProofs only [go_sem, *]);exact ⟨by exact rfl,by omega,⟨by omega,by omega⟩,by simp⟩
    have hkp:=oT hk0;have hla:c.getD (c.length-1) 0=c[c.length-1]:=by simp [List.getD_eq_getElem?_getD,show c.length-1<c.length by omega]
    have kh:(uq6 eI u.zs)[c.length-1]? =some (eI (c.getD (c.length-1) 0)):=by
     have h1:(List.take c.length (uq6 eI u.zs))[c.length-1]? =(uq6 eI u.zs)[c.length-1]? :=by rw [List.getElem?_take];simp;omega
     rw [←h1,htk,hla];simp [show c.length-1<c.length by omega]
    have hlb:=hc _ (List.getElem_mem (show c.length-1<c.length by omega));rw [←hla] at hlb;generalize c.getD (c.length-1) 0=z at*;clear hla;have e1:((c.length:Int)-1).toNat=c.length-1:=by omega
    have p5:=ju ((i:Int)-z) (by omega);rcases hq:decide (fg ((i:Int)-z)>m.step) with _|_
    . have hsT:bP m c i=true:=by rw [l4,hq];simp
      simp -dsimp -implicitDefEqProofs only [go_sem,hfn,hk0,e1,kh];refine ⟨⟨by omega,by omega⟩,⟨by omega,by omega⟩,⟨by omega,by omega⟩,?_⟩;(refine an (p5) ?_;try simp -dsimp -implicitDefEqProofs only [go_sem, *]);refine ⟨by exact rfl,by omega,?_⟩;refine ak.ly 13 mixed rfl ?_;simp -dsimp -implicitDefEqProofs only [cr,bQ,uq1,uq2];have htl:List.take (c.length+1) (uq6 eI (c++[(i:Int)]))=uq6 eI (c++[(i:Int)]):=bW (by simp);rcases hq2:decide ((ba (c++[(i:Int)]) c.length:Int)>m.same) with _|_
      . have hcB:aX m (gF m tb lim part (gg m tb lim d)) n c i u=bt m (gF m tb lim part (gg m tb lim d)) n (c++[(i:Int)]) ⟨u.af+1,c++[(i:Int)],u.s⟩:=by rw [aX,if_pos hsT,if_pos (by rw [dK,hq2];rfl),hu1]
        rw [hcB] at cF ⊢;clear hcB;generalize bt m (gF m tb lim part (gg m tb lim d)) n (c++[(i:Int)]) ⟨u.af+1,c++[(i:Int)],u.s⟩=w at*;obtain ⟨w,b⟩:=w;simp -dsimp -implicitDefEqProofs only [go_sem,htl];(refine an (cO) ?_;try simp -dsimp -implicitDefEqProofs only [go_sem, *]);refine ⟨by exact rfl,?_⟩;refine c7 hih ⟨⟨?_,?_⟩,?_,?_⟩ ?_
        . simp -dsimp -implicitDefEqProofs only [go_sem]
        . simp -dsimp -implicitDefEqProofs only [go_sem];simp [ao,au,ct,gZ]
        . simp -dsimp -implicitDefEqProofs only [go_sem]
        . simp -dsimp -implicitDefEqProofs only [go_sem];simp
        rintro r m' ⟨hr,hm'⟩;rw [hr,hm'];clear hr hm';cases b with
        |false=>
         rw [cF rfl];simp -dsimp -implicitDefEqProofs only [go_sem];refine ⟨by omega,_,rfl,aN ?_ ?_⟩
         . simp -dsimp -implicitDefEqProofs only [go_sem]
         simp -dsimp -implicitDefEqProofs only [go_sem];simp [ao,au,ct,gZ]
        |true=>
         simp -dsimp -implicitDefEqProofs only [go_sem];exact ⟨by omega,⟨by omega,by omega⟩,by simp⟩
      have hcB:aX m (gF m tb lim part (gg m tb lim d)) n c i u=(⟨u.af+1,c++[(i:Int)],u.s⟩,true):=by rw [aX,if_pos hsT,if_neg (by rw [dK,hq2];exact fun h=>by cases h),hu1]
      rw [hcB];clear hcB cF;simp -dsimp -implicitDefEqProofs only [go_sem,htl];(refine an (cO) ?_;try simp -dsimp -implicitDefEqProofs only [go_sem, *]);exact ⟨by exact rfl,by omega,⟨by omega,by omega⟩,by simp⟩
    have hsF:bP m c i=false:=by
     rw [l4,hq];cases c with
     |nil=>simp at hkp
     |cons=>rfl
    have hcB:aX m (gF m tb lim part (gg m tb lim d)) n c i u=(u,true):=by rw [aX,if_neg (by rw [hsF];exact fun h=>by cases h)]
    rw [hcB];clear hcB cF;simp -dsimp -implicitDefEqProofs only [go_sem,hfn,hk0,e1,kh];refine ⟨⟨by omega,by omega⟩,⟨by omega,by omega⟩,⟨by omega,by omega⟩,?_⟩;(refine an (p5) ?_;try simp -dsimp -implicitDefEqProofs only [go_sem, *]);exact ⟨by exact rfl,⟨by omega,by omega⟩,by simp⟩
  simp -dsimp -implicitDefEqProofs only [pz,bk,bR,bB,↓reduceIte,cK];have hlt:decide (((m.aq.toNat:Nat):Int)<m.aq)=false:=dF (by omega);simp -dsimp -implicitDefEqProofs only [go_sem,hlt];rw [dS];refine ⟨_,⟨by rw [hI],rfl⟩,aN ?_ ?_⟩
  . simp -dsimp -implicitDefEqProofs only [go_sem]
  simp -dsimp -implicitDefEqProofs only [go_sem];simp [ao,au,ct,gZ]
theorem V9 (m:aL) (tb:lL) (lim d:Nat) (ky:a6 m=true) (htl:tb.length<=1000) (Ha:∀i (hi:i<tb.length),tb[i].length=(tb.getD 0 []).length) (hwd:(tb.getD 0 []).length<=1000) (hlm:lim<=4000) (hIH:QN m tb lim d):QN m tb lim (d+1):=by
 intro part z hpl hpx htr hfb;have hG:YT m tb lim d z.found.length part:=⟨ky,htl,Ha,hwd,hpl,hpx,hlm,hfb⟩;have vS:=aO ky
 have eW:=XL m ky tb lim d z.found.length part hG hIH m.ah.toNat [] ⟨0,[],(z,true)⟩ (by simp;omega) (fun x hx=>by cases hx) ⟨rfl,Nat.le_refl _⟩ (by
  have h8:(8:Nat)^m.ah.toNat<=8^6:=Nat.pow_le_pow_right (by decide) (by omega)
  exact ⟨0,⟨htr,Nat.le_refl _⟩,by omega⟩)
 have hsp:=(iG m (gF m tb lim part (gg m tb lim d)) m.ah.toNat [] ⟨0,[],(z,true)⟩ ⟨rfl,Nat.le_refl _⟩).2.1;rw [show bc m m.ah.toNat []=bE m from rfl] at hsp;rw [GL,←hsp];clear hsp;have hst:=GJ m tb part ky htl (by omega) Ha hwd hpx;generalize bt m (gF m tb lim part (gg m tb lim d)) m.ah.toNat [] ⟨0,[],(z,true)⟩=w at*;have e:((part.length:Int)==(tb.length:Int))=false:=by simp;omega
 simp only [uq5,uq8] at eW;refine fN.dM 39 [.tmp 6] func256 (hv:= ?_);simp -dsimp -implicitDefEqProofs only [go_sem];refine ak.draw mixed rfl ?_;simp -dsimp -implicitDefEqProofs only [go_sem,e];refine ⟨by exact rfl,?_⟩;refine ak.draw mixed rfl ?_;simp -dsimp -implicitDefEqProofs only [go_sem];refine aI hst (by simp [ay,ao,au,aH]) ?_;simp -dsimp -implicitDefEqProofs only [go_sem];refine ⟨by exact rfl,?_⟩;refine ak.ly 7 mixed rfl ?_;simp -dsimp -implicitDefEqProofs only [cr,bQ,uq1,uq2];simp -dsimp -implicitDefEqProofs only [go_sem];refine ⟨by exact rfl,?_⟩;refine oV 1600000000 310000 16 [] func222 rfl rfl rfl rfl rfl (by exact oT rfl) ?_;simp -dsimp -implicitDefEqProofs only [go_sem];refine jr 1700000000 eW ⟨?_,?_⟩ ⟨⟨?_,?_⟩,?_,?_⟩ ?_
 . simp -dsimp -implicitDefEqProofs only [go_sem]
 . simp -dsimp -implicitDefEqProofs only [go_sem]
 . simp -dsimp -implicitDefEqProofs only [go_sem]
 . simp -dsimp -implicitDefEqProofs only [go_sem];all_goals try (simp [ao,au,ct,gZ];done)
 . simp -dsimp -implicitDefEqProofs only [go_sem]
 . simp -dsimp -implicitDefEqProofs only [go_sem];all_goals try (simp;done)
 rintro r m' ⟨hr,hm'⟩;rw [hr,hm'];simp -dsimp -implicitDefEqProofs only [go_sem];refine ⟨_,rfl,aN ?_ ?_⟩
 . simp -dsimp -implicitDefEqProofs only [go_sem]
 simp -dsimp -implicitDefEqProofs only [go_sem];simp [ao,au,ct]
theorem fN.YU {P:Program} {f:FuncId} {m0:Mem} {x z:AV} {sh:Sh} {post:AV->Mem->Prop} (h:fN P f m0 [x,.arr sh [],z] post):fN P f m0 [x,.val (.slice none 0 0),z] post:=by
 refine ⟨h.1,fun w φ fp S vs hsz hR=>h.2 w φ fp S vs hsz {hR with tm:=fun t=> ?_,tl:=fun t l af hl=> ?_}⟩
 . have:=hR.tm t;rw [bO] at this ⊢;match t,this with
   |0,this=>exact this
   |1,this=>
    have this:RV w S φ (.val (.slice none 0 0)) _:=this;obtain ⟨e,_⟩:=aS this;show RV w S φ (.arr sh []) _;rw [←e];exact .rd _ _ (.nil _ _)
   |2,this=>exact this
   |_+3,this=>exact this
 have:=hR.tl t l af;rw [bO] at this hl;match t,this,hl with
 |0,this,hl=>exact this hl
 |1,_,hl=>cases hl
 |2,this,hl=>exact this hl
 |_+3,this,hl=>exact this hl
theorem GN (m:aL) (tb:lL) (lim:Nat) (ky:a6 m=true) (htl:tb.length<=1000) (Ha:∀i (hi:i<tb.length),tb[i].length=(tb.getD 0 []).length) (hwd:(tb.getD 0 []).length<=1000) (hlm:lim<=4000) (ht0:0<tb.length):∀d,QN m tb lim d
 |0=>fun part z hpl hpx htr hfb=>by
  have vS:=aO ky;exact V7 m tb lim part z htl (by omega) (by omega) (fun x hx=>by have:=(hpx x hx).1;omega) (by omega)
 |d+1=>V9 m tb lim d ky htl Ha hwd hlm (GN m tb lim ky htl Ha hwd hlm ht0 d)
theorem GO {m:aL} {t:lL} {lim:Nat} (h:k7 m t lim=0):lim<=4000:=by
 unfold k7 at h;split at h
 . split at h
   . rename_i hi;simp only [bF,uq0,decide_eq_true_eq] at hi;omega
   exact absurd h (by decide)
 exact absurd h (by decide)
theorem GP (m:aL) (t:lL) (lim:Nat) (h:t.length<=1048576) (h2:∀x∈t,x.length<=1048576):Fn pG 160 [jR m t,.val (.slice none 0 0),eI lim] true (fun r=>sS r (lV m t lim)):=by
 refine Fn.dM 40 [.tmp 6,.tmp 7,.tmp 8] func160 (hv:= ?_);have hs:=zF m t lim h h2;unfold lV;by_cases hc:k7 m t lim=0
 . have sQ:=GO hc;rw [if_pos hc];rw [hc] at hs;have e:((0:Int) != 0)=false:=rfl;have hsy:eV m t=true:=by
    unfold k7 at hc;by_cases hb:eV m t=true
    . exact hb
    rw [if_neg hb] at hc;exact absurd hc (by decide)
   have hF:M9 m t []:=V4 hsy (by simp) (fun x hx=>by cases hx);have hgo:=GN m t lim hF.pR hF.tl hF.row hF.wd sQ hF.t0 t.length [] ⟨0,false,[]⟩ (by simp) (fun x hx=>by cases hx) (Nat.zero_le _) (by have:=hF.tl;have:=iW hsy;simp;omega);have hgo:=fN.YU hgo;have hgf:=Ci (t:=t) (lim:=lim) hF.pR t.length [] ⟨0,false,[]⟩ (fun x hx=>by cases hx) rfl (Nat.zero_le _) rfl;have hgl:=(Dv m t lim t.length [] ⟨0,false,[]⟩ (Nat.zero_le _)).le;have hok:=(k6 (m:=m) (t:=t) (lim:=lim) t.length [] ⟨0,false,[]⟩ (fun k h=>by cases h) (Nat.zero_le _) rfl).fl;rw [hgf] at hok ⊢;clear hgf;generalize gg m t lim t.length [] ⟨0,false,[]⟩=w at*;simp -dsimp -implicitDefEqProofs only [go_sem];refine ab hs ?_;simp -dsimp -implicitDefEqProofs only [go_sem,e];have e1:decide ((1:Int)>0)=true:=rfl;refine cn 300000 25 [.tmp 8,.tmp 9] func211 rfl rfl rfl rfl rfl (by exact oT rfl) ?_;simp -dsimp -implicitDefEqProofs only [go_sem,e1,uq2,List.set_cons_zero,List.set_cons_succ];refine jr 1900000000 hgo ⟨?_,?_⟩ ⟨⟨?_,?_⟩,?_,?_⟩ ?_
   . simp -dsimp -implicitDefEqProofs only [go_sem]
   . simp -dsimp -implicitDefEqProofs only [go_sem]
   . simp -dsimp -implicitDefEqProofs only [go_sem]
   . simp -dsimp -implicitDefEqProofs only [go_sem];all_goals try (simp [ao,au,ct];done)
   . simp -dsimp -implicitDefEqProofs only [go_sem]
   . simp -dsimp -implicitDefEqProofs only [go_sem];all_goals try (simp;done)
   rintro r m' ⟨hr,hm'⟩;rw [hr,hm'];obtain ⟨b,tr,st,fd⟩:=w;simp only at hgl ⊢;rcases fd with _|⟨f,_|⟨f2,r2⟩⟩
   . have e2:decide (((0:Nat):Int)>0)=false:=rfl;have e3:decide ((0:Int)>0)=false:=rfl;cases st
     . simp -dsimp -implicitDefEqProofs only [go_sem,e3,uq5,uq8,fV];all_goals first|rfl|skip
     simp -dsimp -implicitDefEqProofs only [go_sem,e3,uq5,uq8,fV];all_goals first|rfl|skip
   . have e2:decide (((0+1:Nat):Int)>0)=true:=rfl;have e3:decide (((1:Nat):Int)>0)=true:=rfl;have e4:decide ((1:Int)>0)=true:=rfl;have hfl:0<(f.map aM).length:=by
      have:=(hok f (by simp)).1;have:=hF.t0;simp only [uq5,Nat.zero_add] at*;rw [uq4];omega
     simp -dsimp -implicitDefEqProofs only [go_sem,e2,uq3,uq5,uq7,uq8];refine ak.C3 300012 1 0 500000 [aR f] (f.map aM) ⟨1,false⟩ (by decide) rfl rfl hfl rfl fun u=> ?_;refine ak.VI ?_;refine ak.draw mixed rfl ?_;simp -dsimp -implicitDefEqProofs only [go_sem,List.set_cons_zero];((with_reducible and_intros);all_goals try first|omega|exact rfl);refine hk.untold 6 500000 0 ⟨1,false⟩ (f.map aM) u rfl rfl ?_;refine hk.go ?_;simp -dsimp -implicitDefEqProofs only [go_sem,fV];all_goals first|(simp;done)|skip
   simp at hgl
 rw [if_neg hc];have e:(k7 m t lim != 0)=true:=bne_iff_ne.2 hc;simp -dsimp -implicitDefEqProofs only [go_sem];refine ab hs ?_;simp -dsimp -implicitDefEqProofs only [go_sem,e];all_goals first|rfl|skip
theorem zG (m:aL) (t:lL) (lim:Nat) (h:t.length<=1048576) (h2:∀x∈t,x.length<=1048576):Fn pG 116 [jR m t,eI lim] true (fun r=>sS r (lV m t lim)):=by
 refine Fn.dM 13 [.tmp 4,.tmp 5,.tmp 6] func116 (hv:= ?_);have hf:Fn pG 160 [jR m t,.val (.slice none 0 0),eI lim] true (· =lV m t lim):=Fn.nil (Fn.mono (GP m t lim h h2) fun x hx=>⟨_,hx,rfl⟩);rcases Gi m t lim with ⟨f,tr,e,_⟩|⟨c,_,e⟩
 . rw [e] at hf ⊢;simp -dsimp -implicitDefEqProofs only [go_sem];refine ab hf ?_;simp -dsimp -implicitDefEqProofs only [go_sem];all_goals first|(simp;done)|skip
 rw [e] at hf ⊢;simp -dsimp -implicitDefEqProofs only [go_sem];refine ab hf ?_;simp -dsimp -implicitDefEqProofs only [go_sem];all_goals first|rfl|skip
theorem Ji {α:Type} (t:List α) (at' i:Nat) (h:i<t.length):(t.take (i+1)).eraseIdx at'=(t.take i).eraseIdx at'++if i=at' then [] else [t[i]]:=by
 rw [List.take_succ_eq_append_getElem h];have hl:(t.take i).length=i:=by simp;omega
 by_cases e:i=at'
 . subst e;rw [if_pos rfl,List.append_nil,List.eraseIdx_of_length_le (l:=t.take i) (by omega),List.eraseIdx_append_of_length_le (by omega),hl,Nat.sub_self];simp
 rw [if_neg e];by_cases h2:at'<i
 . rw [List.eraseIdx_append_of_lt_length (by omega)]
 rw [List.eraseIdx_append_of_length_le (by omega),List.eraseIdx_of_length_le (by simp;omega),List.eraseIdx_of_length_le (by omega)]
theorem sN (t:lL) (at':Nat) (h:t.length<=1000) (h2:∀x∈t,x.length<=1048576):Fn pG 95 [aR t,eI at'] false (· =aR (t.eraseIdx at')):=by
 refine Fn.cg 26 [.tmp 4] func95 (hv:= ?_);have NB:=fun i h=>Ji t at' i h;have fU:(t.take t.length).eraseIdx at'=t.eraseIdx at':=by rw [dD]
 have hlen:∀i,((t.take i).eraseIdx at').length<=1000:=fun i=>by have:=List.length_eraseIdx_le (t.take i) at';simp at this;omega
 have h0:(t.take 0).eraseIdx at'=[]:=by simp
 generalize hG:(fun i=>(t.take i).eraseIdx at')=G at*;have eG:∀i,(t.take i).eraseIdx at'=G i:=fun i=>by rw [←hG]
 simp only [eG] at NB fU hlen h0;clear hG eG;simp -dsimp -implicitDefEqProofs only [go_sem];refine ak.up [0,1] [10,22,23,24] [7] t.length (fun _=>True) (fun i=>[(6,eI i),(5,.ref 7 0 0 (G i).length)]) (fun i=>[(7,.row 0 ⟨1,false⟩ (G i).isEmpty ((G i).map aM))]) trivial ?_ rfl (fun i hi _=> ?_) (fun _=> ?_)
 . rw [h0];simp -dsimp -implicitDefEqProofs only [go_sem,List.isEmpty_nil,uq8,uq5]
 . have gi:=get_some hi;have li:=aG hi;have ho:=tI t[i] (h2 _ (List.getElem_mem hi));have hs:=NB i hi;have Zn:=hlen i;have hE:∀C:lL,C.isEmpty=false\/C.length=0:=fun C=>by cases C with|nil=>exact .inr rfl|cons=>exact .inl rfl
   generalize t[i]=x at*;have e2:=fun K:lL=>show (K++[x]).map aM=K.map aM++[aM x] by simp
   have e3:=fun K:lL=>show (K++[x]).isEmpty=false by simp
   clear NB hlen;generalize G i=K at*;generalize G (i+1)=K2 at*;have tK:(K.map aM).take K.length=K.map aM:=bW (by simp);by_cases e:i=at'
   . rw [if_pos e,List.append_nil] at hs;subst hs;have ee:((i:Int) != (at':Int))=false:=by rw [e];simp
     simp -dsimp -implicitDefEqProofs only [pz,bk,bR,bB,↓reduceIte,cK];simp -dsimp -implicitDefEqProofs only [go_sem,li,ee];((with_reducible and_intros);all_goals try first|(refine ⟨?_,?_⟩<;>omega)|exact rfl)
   rw [if_neg e] at hs;subst hs;have ee:((i:Int) != (at':Int))=true:=by simp;omega
   simp -dsimp -implicitDefEqProofs only [pz,bk,bR,bB,↓reduceIte,cK];simp -dsimp -implicitDefEqProofs only [go_sem,gi,li,ee];((with_reducible and_intros);all_goals try (omega));refine ax ho (by simp [ay,ao,aH]) ?_;simp -dsimp -implicitDefEqProofs only [go_sem];refine .inr ⟨by omega,hE K,⟨by omega,by omega⟩,?_⟩;simp -dsimp -implicitDefEqProofs only [go_sem,e2,e3];(all_goals try (exact rfl))
 rw [fU];generalize t.eraseIdx at'=K at*;simp -dsimp -implicitDefEqProofs only [pz,bk,bR,bB,↓reduceIte,cK];simp -dsimp -implicitDefEqProofs only [go_sem,aC]
open Go.Lib
structure Dk where
 m:aL
 a:lL
 k:lL
abbrev lz (d:Dk):AV:=Xv d.m d.a d.k
def la (d:Dk):Bool:=gR d.m d.a d.k
def Rv:Dk:=⟨⟨4,5,3,2,2⟩,[],[]⟩
inductive Dw where
 |lf (m:aL)
 |key (x y:List UInt8)
 |drop (n:Nat)
 |find (n:Nat)
 |NH
 |cq
 |pa
 |count
 |ka
 |lock (n:Nat)
 |opens (x:List UInt8)
 |pc (n s:Nat)
def vN (d:Dk) (x y:lU):Dk × Int:=
 if (kg d.m x).2=0 then
  if y.all dQ=true then
   if gR d.m (d.a++[bA y]) (d.k++[(kg d.m x).1])=true then (⟨d.m,d.a++[bA y],d.k++[(kg d.m x).1]⟩,0) else (d,2)
  else (d,6)
 else (d,(kg d.m x).2)
def gO (m:aL) (t:lL) (lim:Nat):lL × Int × Int:=
 if k7 m t lim=0 then
  (match (dP m t lim t.length [] ⟨0,false,[]⟩).2.found with
    |f::_=>(f,((dP m t lim t.length [] ⟨0,false,[]⟩).2.tries:Int),0)
    | []=>([],0,if (dP m t lim t.length [] ⟨0,false,[]⟩).2.stop=true then 3 else 4))
 else ([],0,k7 m t lim)
theorem GQ (m:aL) (t:lL) (lim:Nat):sS (lV m t lim) (.aZ [aR (gO m t lim).1,eI (gO m t lim).2.1,eI (gO m t lim).2.2]):=by
 unfold lV gO fV;generalize dP m t lim t.length [] ⟨0,false,[]⟩=F;obtain ⟨b,tr,st,fd⟩:=F;split
 . cases fd with
   |nil=>exact ⟨rfl,rfl,rfl,rfl⟩
   |cons f r=>exact ⟨rfl,rfl,rfl,rfl⟩
 exact ⟨rfl,rfl,rfl,rfl⟩
theorem QO {m:aL} {t:lL} {lim:Nat} (h:(gO m t lim).2.2=0):eV m t=true/\(gO m t lim).1.length=t.length/\∀k∈(gO m t lim).1,fF m k=true:=by
 unfold gO at h ⊢;by_cases hc:k7 m t lim=0
 . have hs:eV m t=true:=by
    cases h:eV m t with
    |true=>rfl
    |false=>rw [k7,h,if_neg (by simp)] at hc;exact absurd hc (by decide)
   rw [if_pos hc] at h ⊢;have hok:=k6 (m:=m) (t:=t) (lim:=lim) t.length [] ⟨0,false,[]⟩ (fun k h=>by cases h) (Nat.zero_le _) rfl;generalize dP m t lim t.length [] ⟨0,false,[]⟩=F at*;obtain ⟨b,tr,st,fd⟩:=F;obtain ⟨g1,g2,g3,g4⟩:=hok;simp only at g1 g2 g3 g4 h ⊢;cases fd with
   |nil=>
    cases st<;>simp at h
   |cons f r=>
    have hf:=g4 f (List.mem_cons_self ..);have hn:=aO (lR hs);refine ⟨hs,by simpa using hf.1,fun k hk=> ?_⟩;exact beq_iff_eq.2 (qo.fault (kq (by omega) (hf.2 k hk)))
 rw [if_neg hc] at h;exact absurd h hc
def dU (d:Dk):Dw->Dk × Int
 | .lf m=>if a6 m=true then (⟨m,[],[]⟩,0) else (d,1)
 | .key x y=>vN d x y
 | .drop n=>if n<d.k.length then (⟨d.m,d.a.eraseIdx n,d.k.eraseIdx n⟩,0) else (d,2)
 | .find n=>if (gO d.m d.a n).2.2=0 then (⟨d.m,d.a,(gO d.m d.a n).1⟩,0) else (d,(gO d.m d.a n).2.2)
 |_=>(d,0)
def ca (e:lU) (d:Dk):Dw->lU × Int
 | .NH=>(itoa (mT d.m d.a d.k).length,bY d.m d.a d.k)
 | .cq=>(itoa (if bm d.m d.a d.k=true then ((cq d.m d.a d.k).length:Int) else 0),if bm d.m d.a d.k=true then 0 else 1)
 | .count=>(itoa (if a6 d.m=true then iK d.m else 0),if a6 d.m=true then 0 else 1)
 | .ka=>(itoa (if bm d.m d.a d.k=true then og d.m d.a d.k else 0),if bm d.m d.a d.k=true then 0 else 1)
 | .lock n=>if bY d.m d.a d.k=0 then if n<(d.a.getD 0 []).length then (pZ (pins d.m (bT d.m d.a d.k n)),0) else ([],2) else ([],bY d.m d.a d.k)
 | .opens x=>if (kg d.m x).2=0 then if (B8 d.m d.a d.k (kg d.m x).1).2=0 then (yN (B8 d.m d.a d.k (kg d.m x).1).1,0) else (e,(B8 d.m d.a d.k (kg d.m x).1).2) else ([],(kg d.m x).2)
 | .pa=>(match yZ d.m d.a d.k with| []=>[45]|g::_=>o8 g,if bm d.m d.a d.k=true then 0 else 1)
 | .pc n s=>if n<d.k.length then j7 d.m (d.k.getD n []) 0 s else ([],2)
 |_=>([],0)
theorem Nn (e e':lU) (d:Dk) (c:Dw):(ca e d c).2=(ca e' d c).2:=by
 cases c<;>simp only [ca];split
 . split<;>rfl
 rfl
theorem No (e e':lU) (d:Dk) (c:Dw) (h:(ca e d c).2=0):(ca e d c).1=(ca e' d c).1:=by
 cases c<;>simp only [ca];simp only [ca] at h;split at h
 . rename_i h1;rw [if_pos h1,if_pos h1];split at h
   . rename_i h2;rw [if_pos h2,if_pos h2]
   rename_i h2;exact absurd h h2
 rename_i h1;exact absurd h h1
def y7:Dw->Bool
 | .lf _=>true
 | .key _ _=>true
 | .drop _=>true
 | .find _=>true
 |_=>false
inductive mU:List (List UInt8)->List Int->Dw->Prop where
 |lf (x1 x2 x3 x4 x5:List UInt8) (n1 n2 n3 n4 n5:Nat):(n1<=9999999999999/\n2<=9999999999999/\n3<=9999999999999/\n4<=9999999999999/\n5<=9999999999999)->mU [gU,x1,x2,x3,x4,x5] [n1,n2,n3,n4,n5] (.lf ⟨n1,n2,n3,n4,n5⟩)
 |key (x y:List UInt8):mU [k9,x,y] [] (.key x y)
 |drop (x:List UInt8) (n:Nat):n<=9999999999999->mU [iH,x] [n] (.drop n)
 |find (x:List UInt8) (n:Nat):n<=9999999999999->mU [gY,x] [n] (.find n)
 |NH:mU [iZ] [] .NH
 |cq:mU [e6] [] .cq
 |pa:mU [eu] [] .pa
 |count:mU [fS] [] .count
 |ka:mU [dr] [] .ka
 |lock (x:List UInt8) (n:Nat):n<=9999999999999->mU [jk,x] [n] (.lock n)
 |opens (x:List UInt8):mU [dv,x] [] (.opens x)
 |pc (x y:List UInt8) (n s:Nat):(n<=9999999999999/\s<=9999999999999)->mU [dZ,x,y] [n,s] (.pc n s)
theorem Np (w:lU) (h:0<=cJ w):(cJ w=0/\(w=iZ\/w=e6\/w=eu\/w=fS\/w=dr))\/(cJ w=1/\(w=iH\/w=gY\/w=jk))\/(cJ w=2/\w=dZ)\/(cJ w=5/\w=gU)\/(cJ w=11/\w=dv)\/(cJ w=12/\w=k9):=by
 unfold cJ at h ⊢;rcases Classical.em (w=iZ) with q|q
 . simp only [if_pos q];simp [q]
 simp only [if_neg q] at h ⊢;rcases Classical.em (w=e6) with q2|q2
 . simp only [if_pos q2];simp [q2]
 simp only [if_neg q2] at h ⊢;rcases Classical.em (w=eu) with q3|q3
 . simp only [if_pos q3];simp [q3]
 simp only [if_neg q3] at h ⊢;rcases Classical.em (w=fS) with q4|q4
 . simp only [if_pos q4];simp [q4]
 simp only [if_neg q4] at h ⊢;rcases Classical.em (w=dr) with q5|q5
 . simp only [if_pos q5];simp [q5]
 simp only [if_neg q5] at h ⊢;rcases Classical.em (w=iH) with q6|q6
 . simp only [if_pos q6];simp [q6]
 simp only [if_neg q6] at h ⊢;rcases Classical.em (w=gY) with q7|q7
 . simp only [if_pos q7];simp [q7]
 simp only [if_neg q7] at h ⊢;rcases Classical.em (w=jk) with q8|q8
 . simp only [if_pos q8];simp [q8]
 simp only [if_neg q8] at h ⊢;rcases Classical.em (w=dZ) with q9|q9
 . simp only [if_pos q9];simp [q9]
 simp only [if_neg q9] at h ⊢;rcases Classical.em (w=gU) with q10|q10
 . simp only [if_pos q10];simp [q10]
 simp only [if_neg q10] at h ⊢;rcases Classical.em (w=dv) with q11|q11
 . simp only [if_pos q11];simp [q11]
 simp only [if_neg q11] at h ⊢;rcases Classical.em (w=k9) with q12|q12
 . simp only [if_pos q12];simp [q12]
 simp only [if_neg q12] at h;exact absurd h (by decide)
theorem jX {w:lU} (h:(dW w).2=true):∃n:Nat,(dW w).1=n/\n<=9999999999999:=by
 obtain ⟨v1,v2⟩:=tv h;obtain ⟨h1,h2,h3⟩:=(tM w).2 h;have hd:∀c∈w,48<=c.toNat/\c.toNat<=57:=by intro c hc;rw [ff v1] at v2;exact pK _ c (by rw [←v2];exact hc)
 have hb:=su w 0 hd;have hp:10^w.length<=10000000000000:=Ko h3;have hv:(dW w).1=(jQ 0 w:Nat):=by
  unfold dW at h ⊢;split
  . rename_i hc;rw [if_pos hc] at h;cases h
  rename_i hc;rw [if_neg hc] at h;split
  . rfl
  rename_i hd2;rw [if_neg hd2] at h;cases h
 exact ⟨jQ 0 w,hv,by omega⟩
theorem Kz {α:Type} {r:List α} (h:r.length=2):∃x y,r=[x,y]:=by
 match r,h with
 | [x,y],_=>exact ⟨x,y,rfl⟩
theorem Cj {s:lU} (h:(ft s).2.2=true):∃c,mU (ft s).1 (ft s).2.1 c:=by
 unfold ft at h ⊢;generalize dq 32 s=ws at*;split at h
 . cases h
 rename_i h1;rw [if_neg h1];have hk0:¬cJ (ws.headD [])<0:=fun q=>h1 (.inl q);have hl:(ws.length:Int)=(cJ (ws.headD [])).tmod 10+1:=Classical.not_not.1 fun q=>h1 (.inr q);clear h1;cases ws with
 |nil=>
  have:(0:Int)<=(cJ (([]:List lU).headD [])).tmod 10:=Int.tmod_nonneg _ (by omega);simp only [uq5] at hl;omega
 |cons w r=>
 simp only [List.headD_cons,uq3,uq1,uq2] at h hk0 hl ⊢;have cX:=Np w (by omega);split at h
 . rename_i h10;rw [if_pos h10];rcases cX with ⟨e,_⟩|⟨e,_⟩|⟨e,_⟩|⟨e,_⟩|⟨e,q⟩|⟨e,q⟩
   . omega
   . omega
   . omega
   . omega
   . rw [e] at hl;have hl:((r.length+1:Nat):Int)=2:=hl;obtain ⟨x,rfl⟩:=List.length_eq_one_iff.1 (show r.length=1 by omega);subst q;exact ⟨_,.opens x⟩
   rw [e] at hl;have hl:((r.length+1:Nat):Int)=3:=hl;obtain ⟨x,y,rfl⟩:=Kz (show r.length=2 by omega);subst q;exact ⟨_,.key x y⟩
 rename_i h10;rw [if_neg h10];split at h
 . rename_i hv;rw [if_pos hv];have hv:=List.all_eq_true.1 hv;rcases cX with ⟨e,q⟩|⟨e,q⟩|⟨e,q⟩|⟨e,q⟩|⟨e,_⟩|⟨e,_⟩
   . rw [e] at hl;have hl:((r.length+1:Nat):Int)=1:=hl;obtain rfl:=List.eq_nil_of_length_eq_zero (show r.length=0 by omega);rcases q with rfl|rfl|rfl|rfl|rfl
     . exact ⟨_,.NH⟩
     . exact ⟨_,.cq⟩
     . exact ⟨_,.pa⟩
     . exact ⟨_,.count⟩
     exact ⟨_,.ka⟩
   . rw [e] at hl;have hl:((r.length+1:Nat):Int)=2:=hl;obtain ⟨x,rfl⟩:=List.length_eq_one_iff.1 (show r.length=1 by omega);obtain ⟨n,hn,hb⟩:=jX (hv x (by simp));simp only [uq7,uq8,hn];rcases q with rfl|rfl|rfl
     . exact ⟨_,.drop x n hb⟩
     . exact ⟨_,.find x n hb⟩
     exact ⟨_,.lock x n hb⟩
   . rw [e] at hl;have hl:((r.length+1:Nat):Int)=3:=hl;obtain ⟨x,y,rfl⟩:=Kz (show r.length=2 by omega);obtain ⟨n,hn,hb⟩:=jX (hv x (by simp));obtain ⟨n2,hn2,hb2⟩:=jX (hv y (by simp));simp only [uq7,uq8,hn,hn2];subst q;exact ⟨_,.pc x y n n2 ⟨hb,hb2⟩⟩
   . rw [e] at hl;have hl:((r.length+1:Nat):Int)=6:=hl;match r,hl with
     | [x1,x2,x3,x4,x5],_=>
       obtain ⟨n1,e1,b1⟩:=jX (hv x1 (by simp));obtain ⟨n2,e2,b2⟩:=jX (hv x2 (by simp));obtain ⟨n3,e3,b3⟩:=jX (hv x3 (by simp));obtain ⟨n4,e4,b4⟩:=jX (hv x4 (by simp));obtain ⟨n5,e5,b5⟩:=jX (hv x5 (by simp));simp only [uq7,uq8,e1,e2,e3,e4,e5];subst q;exact ⟨_,.lf x1 x2 x3 x4 x5 n1 n2 n3 n4 n5 ⟨b1,b2,b3,b4,b5⟩⟩
     | [],hl=>simp at hl
     | [_],hl=>simp at hl
     | [_,_],hl=>simp at hl
     | [_,_,_],hl=>simp at hl
     | [_,_,_,_],hl=>simp at hl
     |_::_::_::_::_::_::_,hl=>simp at hl;omega
   . omega
   omega
 cases h
noncomputable def GR (s:lU):Option Dw:=if h:(ft s).2.2=true then some (Cj h).choose else none
theorem y8 {s:lU} (h:(ft s).2.2=true):∃c,GR s=some c/\mU (ft s).1 (ft s).2.1 c:=⟨_,by rw [GR,dif_pos h],(Cj h).choose_spec⟩
theorem y9 {s:lU} (h:(ft s).2.2=false):GR s=none:=by rw [GR,dif_neg (by rw [h];simp)]
def za (c:Int):lU:=[101,114,114,111,114,32]++itoa c
def Wa (d:Dk) (c:Dw):Dk × lU:=
 if y7 c=true then (if (dU d c).2=0 then ((dU d c).1,[111,107]) else (d,za (dU d c).2))
 else if (ca [] d c).2=0 then (d,(ca [] d c).1) else (d,za (ca [] d c).2)
noncomputable def om (d:Dk) (l:lU):Dk × lU:=match GR l with
 |some c=>Wa d c
 |none=>(d,za 6)
noncomputable def zb (p:Dk × List lU) (l:lU):Dk × List lU:=((om p.1 l).1,p.2++[(om p.1 l).2])
noncomputable def eK (ls:List lU):Dk × List lU:=ls.foldl zb (Rv,[])
theorem zc:eK []=(Rv,[]):=rfl
theorem Nq (ls:List lU) (l:lU):eK (ls++[l])=zb (eK ls) l:=by simp [eK]
theorem tY {ls:List lU} {i:Nat} (h:i<ls.length):eK (ls.take (i+1))=zb (eK (ls.take i)) ls[i]:=by rw [List.take_succ_eq_append_getElem h,Nq]
structure WO (d:Dk):Prop where
 pR:a6 d.m=true
 num:(2<=d.m.ah/\d.m.ah<=6)/\2<=d.m.aq/\d.m.aq<=8
 al:d.a.length<=10
 ar:∀x∈d.a,x.length<=12
 kl:d.k.length=d.a.length
 kr:∀x∈d.k,fF d.m x=true
 kn:∀x∈d.k,x.length<=6
 tb:d.a=[]\/iJ d.a=true
theorem tZ {t:lL} (h:iJ t=true):∀x∈t,gu (t.getD 0 []).length x=true:=by simp only [iJ,uq0,List.all_eq_true] at h;exact h.2
theorem Ck {n:Nat} {x:lI} (h:gu n x=true):x.length=n/\x.length<=12:=by simp only [gu,uq0,beq_iff_eq,decide_eq_true_eq] at h;exact ⟨h.1.1.1,h.1.2⟩
theorem XM {d:Dk} (h:la d=true):WO d:=by
 simp only [la,gR,uq0,Bool.or_eq_true,beq_iff_eq,List.all_eq_true] at h;obtain ⟨⟨⟨h1,h2⟩,h3⟩,h4⟩:=h;have hn:=aO h1;obtain ⟨⟨n1,n2⟩,n3,n4⟩:=hn;have htb:d.a=[]\/iJ d.a=true:=by
  rcases h2 with h2|h2
  . exact .inl (List.eq_nil_of_length_eq_zero (by omega))
  exact .inr h2
 refine ⟨h1,⟨⟨by omega,by omega⟩,by omega,by omega⟩,?_,?_,by omega,h4,?_,htb⟩
 . rcases htb with e|e
   . rw [e];simp
   exact (mR e).2.1
 . rcases htb with e|e
   . rw [e];simp
   exact fun x hx=>(Ck (tZ e x hx)).2
 intro x hx;have:=(gw (h4 x hx)).1;omega
theorem Jj {d:Dk} (h1:a6 d.m=true) (h2:d.a=[]\/iJ d.a=true) (h3:d.k.length=d.a.length) (h4:∀x∈d.k,fF d.m x=true):la d=true:=by
 simp only [la,gR,uq0,Bool.or_eq_true,beq_iff_eq,List.all_eq_true];refine ⟨⟨⟨h1,?_⟩,by omega⟩,h4⟩;rcases h2 with h2|h2
 . left;rw [h2];rfl
 exact .inr h2
theorem Wb:la Rv=true:=by decide
theorem qt {α:Type} {xs:List α} {i:Nat} {x:α} (h:x∈xs.eraseIdx i):x∈xs:=List.mem_of_mem_eraseIdx h
theorem Jk {t:lL} (h:iJ t=true) (i:Nat):t.eraseIdx i=[]\/iJ (t.eraseIdx i)=true:=by
 have hr:=tZ h;have hn:=mR h;cases he:t.eraseIdx i with
 |nil=>exact .inl rfl
 |cons x r=>
  right;have hm:∀y∈x::r,gu (t.getD 0 []).length y=true:=fun y hy=>hr y (qt (i:=i) (by rw [he];exact hy));have hx:=(Ck (hm x (by simp))).1;have hl:=List.length_eraseIdx_le t i;rw [he] at hl;simp only [iJ,uq0,decide_eq_true_eq,List.all_eq_true,List.getD_cons_zero];rw [hx];exact ⟨⟨by simp,by omega⟩,hm⟩
theorem Wc {d:Dk} (h:la d=true) (c:Dw):la (dU d c).1=true:=by
 have hF:=XM h;cases c with
 |lf m=>
  simp only [dU];split
  . rename_i hm;exact Jj hm (.inl rfl) rfl (by simp)
  exact h
 |key x y=>
  simp only [dU,vN];split
  . split
    . split
      . rename_i hd;exact hd
      exact h
    exact h
  exact h
 |drop n=>
  simp only [dU];split
  . rename_i hn;refine Jj hF.pR ?_ ?_ fun x hx=>hF.kr x (qt hx)
    . rcases hF.tb with e|e
      . left;simp only;rw [e];rfl
      exact Jk e n
    have:=hF.kl;simp only;rw [List.length_eraseIdx_of_lt (by omega),List.length_eraseIdx_of_lt (by omega)];omega
  exact h
 |find n=>
  simp only [dU];split
  . rename_i hn;obtain ⟨g1,g2,g3⟩:=QO hn;exact Jj hF.pR hF.tb g2 g3
  exact h
 |_=>exact h
theorem Wd {d:Dk} (h:la d=true) (c:Dw):la (Wa d c).1=true:=by
 unfold Wa;split
 . split
   . exact Wc h c
   exact h
 split<;>exact h
theorem We {d:Dk} (h:la d=true) (l:lU):la (om d l).1=true:=by
 unfold om;split
 . exact Wd h _
 exact h
theorem zd (ls:List lU):∀i,la (eK (ls.take i)).1=true
 |0=>by rw [bQ,zc];exact Wb
 |i+1=>by
  by_cases h:i<ls.length
  . rw [tY h];exact We (zd ls i) _
  rw [bW (by omega),←bW (show ls.length<=i by omega)];exact zd ls i
theorem Dx (ls:List lU):(eK ls).2.length=ls.length:=by
 have:∀(ls:List lU) p,(ls.foldl zb p).2.length=p.2.length+ls.length:=by
  intro ls;induction ls with
  |nil=>intro p;rfl
  |cons l ls ih=>intro p;rw [List.foldl_cons,ih,zb];simp;omega
 rw [eK,this];simp
theorem dkA {d:Dk} (hk:la d=true):WO d/\d.a.length<=1048576/\(∀x∈d.a,x.length<=1048576)/\d.k.length<=1048576/\∀x∈d.k,x.length<=1048576:=by (have hF:=XM hk;have ha1:d.a.length<=1048576:=(by have:=hF.al;omega);have ha2:∀x∈d.a,x.length<=1048576:=(fun x hx=>by have:=hF.ar x hx;omega);have hk1:d.k.length<=1048576:=(by have:=hF.al;have:=hF.kl;omega);have hk2:∀x∈d.k,x.length<=1048576:=(fun x hx=>by have:=hF.kn x hx;omega));exact ⟨hF,ha1,ha2,hk1,hk2⟩
theorem QP (m:aL) (t:lL) (lim:Nat) (h:t.length<=1048576) (h2:∀x∈t,x.length<=1048576):
 Fn pG 116 [jR m t,eI lim] true (· = .aZ [aR (gO m t lim).1,eI (gO m t lim).2.1,eI (gO m t lim).2.2]):=by
 have h1:Fn pG 116 [jR m t,eI lim] true (· =lV m t lim):=Fn.nil (Fn.mono (zG m t lim h h2) fun x hx=>⟨_,hx,rfl⟩);exact Fn.nil (Fn.mono h1 fun x hx=>⟨_,by rw [hx];exact GQ m t lim,rfl⟩)
theorem QQ (m:aL) (t:lL) (lim:Nat) (h:t.length<=1048576) (h2:∀x∈t,x.length<=1048576):Fn pG 96 [jR m t,eI lim] false (· =lV m t lim):=by
 by_cases hl:lim<=4000
 . exact Dj m t lim h h2 hl
 have hc:=BY m t lim h h2;have hne:k7 m t lim≠0:=fun e=>hl (GO e);have hz:(k7 m t lim != 0)=true:=bne_iff_ne.2 hne;refine Fn.cg 21 [.tmp 4,.tmp 5,.tmp 6] func96 (hv:= ?_);unfold lV;rw [if_neg hne];simp -dsimp -implicitDefEqProofs only [go_sem];refine ab hc ?_;simp -dsimp -implicitDefEqProofs only [go_sem,hz]
theorem QR (m:aL) (t:lL) (lim:Nat) (h:t.length<=1048576) (h2:∀x∈t,x.length<=1048576):
 Fn pG 96 [jR m t,eI lim] false (· = .aZ [aR (gO m t lim).1,eI (gO m t lim).2.1,eI (gO m t lim).2.2]):=
 Fn.vK (Fn.mono (QQ m t lim h h2) fun x hx=>⟨_,by rw [hx];exact GQ m t lim,rfl⟩)
theorem vw (t:lL) (h:t.length<=1000) (h2:∀x∈t,x.length<=1048576):nZ pG 31 [aR t] ⟨1,false⟩ (t.map aM):=by
 refine nZ.dM 21 [.tmp 2] func31 (hv:= ?_);simp -dsimp -implicitDefEqProofs only [go_sem];refine ak.up [0] [8,17,18,19] [5] t.length (fun _=>True) (fun i=>[(4,eI i),(3,.ref 5 0 0 i)]) (fun i=>[(5,.row 0 ⟨1,false⟩ (i==0) ((t.take i).map aM))]) trivial ?_ rfl (fun i hi _=> ?_) (fun _=> ?_)
 . simp -dsimp -implicitDefEqProofs only [go_sem]
 . have gi:=get_some hi;have li:=aG hi;have ho:=tI t[i] (h2 _ (List.getElem_mem hi));have e2:(t.take (i+1)).map aM=(t.take i).map aM++[aM t[i]]:=by rw [List.take_succ_eq_append_getElem hi,List.map_append];rfl
   have hln:(t.take i).length=i:=by simp;omega
   have e0:(i+1==0)=false:=rfl;rw [e0,e2];clear e0 e2;generalize t.take i=F at*;generalize t[i]=x at*;have tF:(F.map aM).take i=F.map aM:=bW (by simp;omega);simp -dsimp -implicitDefEqProofs only [pz,bk,bR,bB,↓reduceIte,cK];simp -dsimp -implicitDefEqProofs only [go_sem,gi,li];((with_reducible and_intros);all_goals try (omega));refine ax ho (by simp [ay,ao,aH]) ?_;simp -dsimp -implicitDefEqProofs only [go_sem];refine .inr ⟨by omega,by omega,(by cases i with|zero=>exact .inr rfl|succ i=>exact .inl rfl),⟨by omega,by omega⟩,?_⟩;simp -dsimp -implicitDefEqProofs only [go_sem,tF];(all_goals try (exact rfl))
 rw [dD];simp -dsimp -implicitDefEqProofs only [pz,bk,bR,bB,↓reduceIte,cK];simp -dsimp -implicitDefEqProofs only [go_sem,aC];refine .inr ⟨5,0,by simp,?_⟩;cases t with
 |nil=>exact .inr ⟨rfl,rfl⟩
 |cons x r=>exact .inl rfl
theorem ep.mk {m:Mem} {l v n:Nat} {ys:lA} (hn:n=ys.length) (h:aj m l=some (.row v ⟨1,false⟩ true ys)):ep m (.ref l v 0 n) ys (some l):=by subst hn;exact .ref l v ys h
theorem pd {Lb La Lc:Nat} {post:lA->lA->lA->Prop} {m:Mem} {x1 x2 x3 x4 x5 xa xc:AV} {ya yc:lA} {oa oc:Option Nat} (h1:aj m Lb=some (.box 0 [x1,x2,x3,x4,x5,xa,xc])) (hl:au [x1,x2,x3,x4,x5]=[]) (ha:ep m xa ya oa) (hc:ep m xc yc oc)
 (hn:∀l,oa=some l->oc≠some l) (h2:∀l,oa=some l->l=La\/l<1000000000) (h3:∀l,oc=some l->l=Lc\/l<1000000000) (hp:post [x1,x2,x3,x4,x5] ya yc):Xk Lb La Lc post m:=
 ⟨[x1,x2,x3,x4,x5],xa,xc,ya,yc,oa,oc,h1,hl,ha,hc,hn,h2,h3,hp⟩
theorem gV (Lb La Lc va vk:Nat) (cs ya yc:lA):uZ Lb La Lc va vk cs ya yc=[(Lb,.box 0 (cs++[.ref La va 0 ya.length,.ref Lc vk 0 yc.length])),(La,.row va ⟨1,false⟩ true ya),(Lc,.row vk ⟨1,false⟩ true yc)]:=rfl
abbrev Zz (m:aL):lA:=[eI m.ah,eI m.aq,eI m.step,eI m.same,eI m.least]
abbrev zH (va vk:Nat) (d:Dk):Mem:=uZ 1900000006 1900000500 1900000501 va vk (Zz d.m) (d.a.map aM) (d.k.map aM)
def ZR (r0:AV) (d:Dk) (r:AV) (cs ya yc:lA):Prop:=r=r0/\cs=Zz d.m/\ya=d.a.map aM/\yc=d.k.map aM
theorem fN.dk {P:Program} {f:FuncId} {va vk:Nat} {d d':Dk} {xs:lA} {r0:AV} (h:fN P f (zH va vk d) xs (fun r m'=>∃cs ya yc,au cs=[]/\m'=uZ 1900000006 1900000500 1900000501 (va+1) (vk+1) cs ya yc/\ZR r0 d' r cs ya yc)):
 fN P f (zH va vk d) xs (fun r m'=>r=r0/\m'=zH (va+1) (vk+1) d'):=
 h.mono fun r m' ⟨cs,ya,yc,_,h2,h3,h4,h5,h6⟩=>⟨h3,by rw [h2,h4,h5,h6]⟩
theorem QS {t:lL} (h:iJ t=true):∀x∈t,0<x.length:=fun x hx=>by have h1:=tZ h x hx;simp only [gu,uq0,beq_iff_eq,decide_eq_true_eq] at h1;omega
theorem WO.Ty {d:Dk} (h:WO d):∀x∈d.a,0<x.length/\x.length<=1048576:=fun x hx=>by
 have:=h.ar x hx;rcases h.tb with e|e
 . rw [e] at hx;cases hx
 exact ⟨QS e x hx,by omega⟩
theorem WO.Wf {d:Dk} (h:WO d):∀x∈d.k,0<x.length/\x.length<=1048576:=fun x hx=>by have:=(gw (h.kr x hx)).1;have:=h.num;omega
theorem QT (d:Dk) (hk:la d=true) (x y:lU) (hx:x.length<=1000000) (hy:y.length<=1000000) (va vk:Nat):fN pG 113 (zH va vk d) [.ptr 1900000006 0 0 0,eS x,eS y] (fun r m'=>r=eI (vN d x y).2/\m'=zH (va+1) (vk+1) (vN d x y).1):=by
 refine fN.dk (fN.tq 76 [.tmp 6] func113 rfl rfl rfl rfl rfl (oT rfl) (by decide) ?_);obtain ⟨hF,ha1,ha2,hk1,hk2⟩:=dkA hk;have hr:=yO d.m x (by omega);have hal:=hF.al;have hkl:=hF.kl;unfold vN;rw [gV];by_cases hc:(kg d.m x).2=0
 . have e0:((0:Int) != 0)=false:=rfl;rw [if_pos hc];rw [hc] at hr;have hKf:fault d.m (kg d.m x).1=0:=by
    unfold kg at hc ⊢;split at hc
    . rename_i h1;rw [if_pos h1];split at hc
      . rename_i h2;rw [if_pos h2];exact h2
      exact absurd hc (by decide)
    exact absurd hc (by decide)
   have hK1:=(gw (m:=d.m) (c:=(kg d.m x).1) (beq_iff_eq.2 hKf)).1;have hK0:0<(kg d.m x).1.length:=by have:=hF.num;omega
   generalize (kg d.m x).1=K at*;have tK0:(K.map eI).take K.length=K.map eI:=bW (by simp);simp -dsimp -implicitDefEqProofs only [go_sem,uq4];refine ab hr ?_;simp -dsimp -implicitDefEqProofs only [go_sem,e0];refine ak.up [0,2,7,26] [46,47] [24] y.length (fun i=>(y.take i).all dQ=true) (fun i=>[(9,.ref 24 0 0 i),(27,eI i)]) (fun i=>[(24,.row 0 ⟨1,false⟩ true ((bA (y.take i)).map eI))]) rfl ?_ rfl (fun i hi hI=> ?_) (fun hI=> ?_)
   . simp -dsimp -implicitDefEqProofs only [go_sem];all_goals first|rfl|skip
   . have hg:(y.getD i 0)=y[i]:=by rw [List.getD_eq_getElem?_getD,List.getElem?_eq_getElem hi];rfl
     have hb:=(y[i]).toNat_lt;have cX:=dy dQ y i hi;have hno:=fun h=>gQ (p:=dQ) hi h;have hdd:=IY y[i];have htk:bA (y.take (i+1))=bA (y.take i)++[(y[i].toNat:Int)-48]:=by rw [List.take_succ_eq_append_getElem hi,bA,List.map_append];rfl
     have hln:(bA (y.take i)).length=i:=by rw [dc,List.length_take];omega
     rw [htk,List.map_append,List.map_singleton];clear htk;generalize bA (y.take i)=K2 at*;have tK:List.take i (K2.map eI)=K2.map eI:=bW (by simp [hln]);generalize y[i]=b at*;rcases d1:decide ((b.toNat:Int)<48) with _|_
     . rcases d2:decide ((b.toNat:Int)>57) with _|_
       . have e1:=of_decide_eq_false d1;simp -dsimp -implicitDefEqProofs only [pz,bk,bR,bB,↓reduceIte,cK];simp -dsimp -implicitDefEqProofs only [go_sem,aG hi,hg,d1,d2,tK];((with_reducible and_intros);all_goals try first|omega|(refine ⟨?_,?_⟩<;>omega)|exact rfl);all_goals first|(rw [cX,hI];show dQ b=true;rw [dQ,hdd,d1,d2];rfl)|skip
       have hz:=hno (by rw [dQ,hdd,d1,d2];rfl);rw [hz,if_neg (by simp)];simp -dsimp -implicitDefEqProofs only [pz,bk,bR,bB,↓reduceIte,cK];simp -dsimp -implicitDefEqProofs only [go_sem,aG hi,hg,d1,d2];((with_reducible and_intros);all_goals try (omega));((refine pd (oa:=some 1900000500) (oc:=some 1900000501) rfl ?_ (ep.mk ?_ rfl) (ep.mk ?_ rfl) ?_ ?_ ?_ ⟨rfl,rfl,?_,?_⟩);all_goals first|exact rfl|(simp;done)|skip)
     have hz:=hno (by rw [dQ,hdd,d1];rfl);rw [hz,if_neg (by simp)];simp -dsimp -implicitDefEqProofs only [pz,bk,bR,bB,↓reduceIte,cK];simp -dsimp -implicitDefEqProofs only [go_sem,aG hi,hg,d1];((with_reducible and_intros);all_goals try (omega));((refine pd (oa:=some 1900000500) (oc:=some 1900000501) rfl ?_ (ep.mk ?_ rfl) (ep.mk ?_ rfl) ?_ ?_ ?_ ⟨rfl,rfl,?_,?_⟩);all_goals first|exact rfl|(simp;done)|skip)
   rw [dD] at hI ⊢;rw [hI,if_pos rfl];have hln:=dc y;generalize bA y=R at*;have tR:List.take y.length (R.map eI)=R.map eI:=bW (by simp [hln])
   have hd:=MC d.m (d.a++[R]) (d.k++[K]) (by simp;omega) (fun z hz=>by
    rcases List.mem_append.1 hz with hz|hz
    . exact ha2 z hz
    . rw [uq9] at hz;subst hz;omega) (by simp;omega) (fun z hz=>by
    rcases List.mem_append.1 hz with hz|hz
    . exact hk2 z hz
    rw [uq9] at hz;subst hz;have:=hF.num;omega)
   simp only [Xv,aR,List.map_append,uq7,uq8] at hd;have t3:(d.a.map aM++[aM R]).take (d.a.length+1)=d.a.map aM++[aM R]:=bW (by simp);have t4:(d.k.map aM++[aM K]).take (d.k.length+1)=d.k.map aM++[aM K]:=bW (by simp);have t1:(d.a.map aM).take d.a.length=d.a.map aM:=bW (by simp);have t2:(d.k.map aM).take d.k.length=d.k.map aM:=bW (by simp);rcases hdk:gR d.m (d.a++[R]) (d.k++[K]) with _|_
   . rw [hdk] at hd;rw [if_neg (by simp)];have hl1:=fG d.a (by omega) hF.Ty;have hl2:=fG d.k (by omega) hF.Wf;simp -dsimp -implicitDefEqProofs only [pz,bk,bR,bB,↓reduceIte,cK];simp -dsimp -implicitDefEqProofs only [go_sem,aC];refine ak.draw mixed rfl ?_;simp -dsimp -implicitDefEqProofs only [go_sem,t1];refine u7 hl1 (by decide) ?_ (by decide) ?_
     . simp -dsimp -implicitDefEqProofs only [go_sem,t1]
     simp -dsimp -implicitDefEqProofs only [go_sem,t1,tR,uq4];refine ⟨by omega,.inr ⟨by omega,?_⟩⟩;refine u7 hl2 (by decide) ?_ (by decide) ?_
     . simp -dsimp -implicitDefEqProofs only [go_sem,t2]
     simp -dsimp -implicitDefEqProofs only [go_sem,t2,tK0,uq4];refine .inr ⟨by omega,?_⟩;simp -dsimp -implicitDefEqProofs only [go_sem,t3,t4];((with_reducible and_intros);all_goals try (exact rfl));refine ab hd ?_;simp -dsimp -implicitDefEqProofs only [go_sem];((refine pd (oa:=some 1900000500) (oc:=some 1900000501) rfl ?_ (ep.mk ?_ rfl) (ep.mk ?_ rfl) ?_ ?_ ?_ ⟨rfl,rfl,?_,?_⟩);all_goals first|exact rfl|(simp;done)|skip)
   rw [hdk] at hd;rw [if_pos rfl];have hl1:=fG d.a (by omega) hF.Ty;have hl2:=fG d.k (by omega) hF.Wf;have eS1:∀u,(d.a.map aM++[AV.val u]).set d.a.length (.arr ⟨1,false⟩ (R.map eI))=d.a.map aM++[aM R]:=fun u=>by rw [List.set_append_right _ _ (by simp)];simp
   have eS2:∀u,(d.k.map aM++[AV.val u]).set d.k.length (.arr ⟨1,false⟩ (K.map eI))=d.k.map aM++[aM K]:=fun u=>by rw [List.set_append_right _ _ (by simp)];simp
   have hy0:0<y.length:=by have hF2:=XM (d:=⟨d.m,d.a++[R],d.k++[K]⟩) hdk;have:=(hF2.Ty R (by simp)).1;omega
   simp -dsimp -implicitDefEqProofs only [pz,bk,bR,bB,↓reduceIte,cK];simp -dsimp -implicitDefEqProofs only [go_sem,aC];refine ak.known 9 24 0 y.length ⟨1,false⟩ _ rfl (by decide) rfl (by simp [hln]) hy0 (by decide) fun u1=> ?_;refine ak.known 7 19000 0 K.length ⟨1,false⟩ _ rfl (by decide) rfl (by simp) hK0 (by decide) fun u2=> ?_;refine ak.VI ?_;refine ak.draw mixed rfl ?_;simp -dsimp -implicitDefEqProofs only [go_sem,t1];refine an hl1 ?_;simp -dsimp -implicitDefEqProofs only [go_sem,t1,uq4];((with_reducible and_intros);all_goals try (omega));refine an hl2 ?_;simp -dsimp -implicitDefEqProofs only [go_sem,t2,uq4];((with_reducible and_intros);all_goals try first|omega|exact rfl);refine Go.Vc.hk.back 58000 1 d.a.length 24 0 _ _ _ u1 (by decide) rfl (by simp) rfl ?_;refine Go.Vc.hk.back 66000 1 d.k.length 19000 0 _ _ _ u2 (by decide) rfl (by simp) rfl ?_;rw [eS1 u1,eS2 u2];refine Go.Vc.hk.go ?_;simp -dsimp -implicitDefEqProofs only [go_sem,t3,t4];refine ab hd ?_;simp -dsimp -implicitDefEqProofs only [go_sem];((refine pd (oa:=some 58000) (oc:=some 66000) rfl ?_ (ep.mk ?_ rfl) (ep.mk ?_ rfl) ?_ ?_ ?_ ⟨rfl,rfl,?_,?_⟩);all_goals first|exact rfl|(simp;done)|skip)
 rw [if_neg hc];have e0:((kg d.m x).2 != 0)=true:=bne_iff_ne.2 hc;generalize kg d.m x=K at*;simp -dsimp -implicitDefEqProofs only [go_sem,uq4];refine ab hr ?_;simp -dsimp -implicitDefEqProofs only [go_sem,e0];((refine pd (oa:=some 1900000500) (oc:=some 1900000501) rfl ?_ (ep.mk ?_ rfl) (ep.mk ?_ rfl) ?_ ?_ ?_ ⟨rfl,rfl,?_,?_⟩);all_goals first|exact rfl|(simp;done)|skip)
theorem Cl {d:Dk} (hk:la d=true):(mT d.m d.a d.k).length<=1000:=by
 unfold mT;split
 . rename_i hc;obtain ⟨h1,h2⟩:=ir hc;have:=iW h1;have:=(dJ h2).1;have h:=kD d.m d.a d.k d.k.length;have h3:d.k.length*(d.a.getD 0 []).length<=10*12:=Nat.mul_le_mul (by omega) (by omega);unfold gS;omega
 simp
theorem KA {m:aL} {t ae:lL} (hd:bm m t ae=true):0<=og m t ae/\og m t ae<=1000000:=by
 obtain ⟨h1,h2⟩:=tB hd;have hn:=iW h1;have key:∀l∈aA m t ae (t.getD 0 []).length,0<=fT l/\fT l<=7000:=by
  intro l hl;have hw:=tV (ja hd) _ l hl;obtain ⟨k,hk,rfl⟩:=lY hl;have hlk:=y5 h1 h2 hk;simp only [fv,uq0,List.all_eq_true] at hlk;have hs:∀x∈bT m t ae k,1<=x.length:=fun x hx=>by have:=hlk.2 x hx;simp only [cT,uq0,decide_eq_true_eq] at this;omega
  refine ⟨?_,hw.2.2.2⟩;have:∀l:lL,(∀x∈l,1<=x.length)->0<=fT l:=by
   intro l;induction l with
   |nil=>intro _;simp [fT]
   |cons x r ih=>
    intro h;have e:fT (x::r)=((x.length:Int)-1)+fT r:=by simp [fT]
    have:=ih fun y hy=>h y (List.mem_cons_of_mem _ hy);have:=h x (List.mem_cons_self ..);rw [e];omega
  exact this _ hs
 have sum:∀ls:List lL,(∀l∈ls,0<=fT l/\fT l<=7000)->0<=j8 ls/\j8 ls<=7000*ls.length:=by
  intro ls;induction ls with
  |nil=>intro _;simp [j8]
  |cons x r ih=>
   intro h;have e:j8 (x::r)=fT x+j8 r:=by simp [j8]
   have:=ih fun y hy=>h y (List.mem_cons_of_mem _ hy);have:=h x (List.mem_cons_self ..);rw [e,uq3];omega
 have:=sum _ key;rw [dO] at this;unfold og;omega
theorem GS {m:aL} {t ae:lL} {g:lI} (h:g∈yZ m t ae):bm m t ae=true/\a6 m=true/\fault m g=0:=by
 unfold yZ at h;split at h
 . rename_i hd;have hF:=ja hd;have:=hF.num;exact ⟨hd,hF.pR,qo.fault (kq (by omega) (Kv _ _ _ _ g h))⟩
 cases h
theorem Cm (us:List Value) (h:us.length=7) (h1:∀u,u∈us->u.oneCell'=true):Fn pG 117 [.bu ⟨7,true⟩ [.agg (us.map .val)] 0 0] false (· = .agg ((us.map .val).take 6)):=by
 match us,h with
 | [u0,u1,u2,u3,u4,u5,u6],_=>
   simp only [uq7,uq8,cr,bQ];refine Fn.cg 12 [.cell 2 110] func117 (hv:= ?_);simp -dsimp -implicitDefEqProofs only [go_sem];refine ak.draw mixed rfl ?_;simp -dsimp -implicitDefEqProofs only [go_sem];all_goals (first|exact rfl|skip)
theorem kF (d:Dk):Fn pG 117 [.bu ⟨7,true⟩ [lz d] 0 0] false (· =jR d.m d.a):=by refine Fn.cg 12 [.cell 2 110] func117 (hv:= ?_);simp -dsimp -implicitDefEqProofs only [go_sem];refine ak.draw mixed rfl ?_;simp -dsimp -implicitDefEqProofs only [go_sem];all_goals (first|exact rfl|skip)
theorem Jl (d:Dk) (hk:la d=true):Fn pG 126 [.bu ⟨7,true⟩ [lz d] 0 0,eS iZ] true (· = .aZ [eS (ca [] d .NH).1,eI (ca [] d .NH).2]):=by
 obtain ⟨hF,ha1,ha2,hk1,hk2⟩:=dkA hk;have hs:=kF d;have hq:=tT d.m d.a d.k ha1 ha2 hk1 hk2;have hn:=Cl hk;have ht:=k8 (n:=((mT d.m d.a d.k).length:Int)) (by unfold kx;omega);have w1:decide (iZ=[102,97,108,115,101])=true:=by decide
 simp only [ca];generalize mT d.m d.a d.k=L at*;generalize bY d.m d.a d.k=c at*;refine Fn.av 63 [.tmp 4,.tmp 5] func126 (hv:= ?_);simp -dsimp -implicitDefEqProofs only [go_sem,w1];refine ak.draw mixed rfl ?_;simp -dsimp -implicitDefEqProofs only [go_sem];refine aI hs (by simp [ay,ao,aH]) ?_;simp -dsimp -implicitDefEqProofs only [go_sem];refine aI hq (by simp [ay,ao,au,aH]) ?_;simp -dsimp -implicitDefEqProofs only [go_sem];((with_reducible and_intros);all_goals try (exact rfl));refine ab ht ?_;simp -dsimp -implicitDefEqProofs only [go_sem]
theorem zI (d:Dk) (hk:la d=true):Fn pG 126 [.bu ⟨7,true⟩ [lz d] 0 0,eS e6] true (· = .aZ [eS (ca [] d .cq).1,eI (ca [] d .cq).2]):=by
 obtain ⟨hF,ha1,ha2,hk1,hk2⟩:=dkA hk;have hs:=kF d;have hq:=yY d.m d.a d.k ha1 ha2 hk1 hk2;have hn:=ra hF.pR d.a d.k;have hb:0<=(if bm d.m d.a d.k=true then ((cq d.m d.a d.k).length:Int) else 0)/\(if bm d.m d.a d.k=true then ((cq d.m d.a d.k).length:Int) else 0)<=262144:=by split<;>omega
 have ht:=k8 (n:=if bm d.m d.a d.k=true then ((cq d.m d.a d.k).length:Int) else 0) (by unfold kx;omega);have w1:decide (e6=[102,97,108,115,101])=false:=by decide
 have w2:decide (e6=[103,104,111,115,116,115])=true:=by decide
 simp only [ca];generalize (if bm d.m d.a d.k=true then ((cq d.m d.a d.k).length:Int) else 0)=L at*;generalize (if bm d.m d.a d.k=true then (0:Int) else 1)=c at*;refine Fn.av 63 [.tmp 4,.tmp 5] func126 (hv:= ?_);simp -dsimp -implicitDefEqProofs only [go_sem,w1,w2];refine ak.draw mixed rfl ?_;simp -dsimp -implicitDefEqProofs only [go_sem];refine aI hs (by simp [ay,ao,aH]) ?_;simp -dsimp -implicitDefEqProofs only [go_sem];refine an hq ?_;simp -dsimp -implicitDefEqProofs only [go_sem];((with_reducible and_intros);all_goals try (exact rfl));refine ab ht ?_;simp -dsimp -implicitDefEqProofs only [go_sem]
theorem Dy (d:Dk) (hk:la d=true):Fn pG 126 [.bu ⟨7,true⟩ [lz d] 0 0,eS fS] true (· = .aZ [eS (ca [] d .count).1,eI (ca [] d .count).2]):=by
 obtain ⟨hF,ha1,ha2,hk1,hk2⟩:=dkA hk;have hq:=Gl d.m;have hn:=qY hF.pR;have hb:0<=(if a6 d.m=true then iK d.m else 0)/\(if a6 d.m=true then iK d.m else 0)<=262144:=by split<;>omega
 have ht:=k8 (n:=if a6 d.m=true then iK d.m else 0) (by unfold kx;omega);have w1:decide (fS=[102,97,108,115,101])=false:=by decide
 have w2:decide (fS=[103,104,111,115,116,115])=false:=by decide
 have w3:decide (fS=[99,111,117,110,116])=true:=by decide
 simp only [ca];generalize (if a6 d.m=true then iK d.m else 0)=L at*;generalize (if a6 d.m=true then (0:Int) else 1)=c at*;refine Fn.av 63 [.tmp 4,.tmp 5] func126 (hv:= ?_);simp -dsimp -implicitDefEqProofs only [go_sem,w1,w2,w3];refine ab hq ?_;simp -dsimp -implicitDefEqProofs only [go_sem];refine ab ht ?_;simp -dsimp -implicitDefEqProofs only [go_sem]
theorem zJ (d:Dk) (hk:la d=true):Fn pG 126 [.bu ⟨7,true⟩ [lz d] 0 0,eS dr] true (· = .aZ [eS (ca [] d .ka).1,eI (ca [] d .ka).2]):=by
 obtain ⟨hF,ha1,ha2,hk1,hk2⟩:=dkA hk;have hs:=kF d;have hq:=vL d.m d.a d.k ha1 ha2 hk1 hk2;have hb:0<=(if bm d.m d.a d.k=true then og d.m d.a d.k else 0)/\(if bm d.m d.a d.k=true then og d.m d.a d.k else 0)<=1000000:=by
  split
  . rename_i h;exact KA h
  omega
 have ht:=k8 (n:=if bm d.m d.a d.k=true then og d.m d.a d.k else 0) (by unfold kx;omega);have w1:decide (dr=[102,97,108,115,101])=false:=by decide
 have w2:decide (dr=[103,104,111,115,116,115])=false:=by decide
 have w3:decide (dr=[99,111,117,110,116])=false:=by decide
 have w4:decide (dr=[119,97,102,101,114,115])=true:=by decide
 simp only [ca];generalize (if bm d.m d.a d.k=true then og d.m d.a d.k else 0)=L at*;generalize (if bm d.m d.a d.k=true then (0:Int) else 1)=c at*;refine Fn.av 63 [.tmp 4,.tmp 5] func126 (hv:= ?_);simp -dsimp -implicitDefEqProofs only [go_sem,w1,w2,w3,w4];refine ak.draw mixed rfl ?_;simp -dsimp -implicitDefEqProofs only [go_sem];refine aI hs (by simp [ay,ao,aH]) ?_;simp -dsimp -implicitDefEqProofs only [go_sem];refine an hq ?_;simp -dsimp -implicitDefEqProofs only [go_sem];((with_reducible and_intros);all_goals try (exact rfl));refine ab ht ?_;simp -dsimp -implicitDefEqProofs only [go_sem]
theorem vZ (d:Dk) (w:lU) (c:Dw) (hw:w≠jk/\w≠dv/\w≠eu/\w≠dZ) (hq:Fn pG 126 [.bu ⟨7,true⟩ [lz d] 0 0,eS w] true (· = .aZ [eS (ca [] d c).1,eI (ca [] d c).2])):
 Fn pG 85 [.bu ⟨7,true⟩ [lz d] 0 0,nC [w],aM []] true (· = .aZ [eS (ca [] d c).1,eI (ca [] d c).2]):=by
 have w1:decide (w=[108,111,99,107])=false:=dF hw.1;have w2:decide (w=[111,112,101,110,115])=false:=dF hw.2.1;have w3:decide (w=[119,111,114,115,116])=false:=dF hw.2.2.1;have w4:decide (w=[115,116,97,109,112])=false:=dF hw.2.2.2;generalize ca [] d c=q at*;refine Fn.av 153 [.tmp 6,.tmp 7] func85 (hv:= ?_);simp -dsimp -implicitDefEqProofs only [go_sem,w1,w2,w3,w4,uq7,uq8];((with_reducible and_intros);all_goals try (omega));refine ab hq ?_;simp -dsimp -implicitDefEqProofs only [go_sem]
theorem Jm (d:Dk) (hk:la d=true) (x:lU) (n:Nat) (hn:n<=9999999999999):Fn pG 85 [.bu ⟨7,true⟩ [lz d] 0 0,nC [jk,x],aM [n]] true (· = .aZ [eS (ca [] d (.lock n)).1,eI (ca [] d (.lock n)).2]):=by
 obtain ⟨hF,ha1,ha2,hk1,hk2⟩:=dkA hk;have hs:=kF d;have hq:=Ja d.m d.a d.k ha1 ha2 hk1 hk2;have w1:decide (jk=[108,111,99,107])=true:=by decide
 simp only [ca];by_cases hc:bY d.m d.a d.k=0
 . obtain ⟨h1,h2⟩:=ir hc;rw [if_pos hc] at hq ⊢;rw [hc] at hq;have e0:((0:Int) != 0)=false:=rfl;have hll:=dO d.m d.a d.k (d.a.getD 0 []).length;by_cases hl:n<(d.a.getD 0 []).length
   . rw [if_pos hl];have hg:=jT d.m d.a d.k hl;have h8:∀x∈bT d.m d.a d.k n,x.length<=8:=fun x hx=>by
      have:=iF d.m d.a d.k n x hx;have:=hF.num;omega
     have hp:=GH d.m (bT d.m d.a d.k n) hF.pR (y5 h1 h2 hl) h8;have dl:decide ((n:Int)≥((d.a.getD 0 []).length:Int))=false:=dF (by omega);generalize pZ (pins d.m (bT d.m d.a d.k n))=T at*;have hlx:n<(aA d.m d.a d.k (d.a.getD 0 []).length).length:=by omega
     generalize bT d.m d.a d.k n=lk at*;generalize aA d.m d.a d.k (d.a.getD 0 []).length=LL at*;generalize (d.a.getD 0 []).length=D at*;subst hll;refine Fn.av 153 [.tmp 6,.tmp 7] func85 (hv:= ?_);simp -dsimp -implicitDefEqProofs only [go_sem,w1,uq7,uq8];((with_reducible and_intros);all_goals try (omega));refine ak.draw mixed rfl ?_;simp -dsimp -implicitDefEqProofs only [go_sem];refine aI hs (by simp [ay,ao,aH]) ?_;simp -dsimp -implicitDefEqProofs only [go_sem];refine aI hq (by simp [ay,ao,au,aH]) ?_;simp -dsimp -implicitDefEqProofs only [go_sem,e0,uq7,uq8];((with_reducible and_intros);all_goals try first|omega|exact rfl);all_goals try simp -dsimp -implicitDefEqProofs only [go_sem,dl]
     refine ak.draw mixed rfl ?_;simp -dsimp -implicitDefEqProofs only [go_sem,hg,uq7,uq8];((with_reducible and_intros);all_goals try (omega));refine an hp ?_;simp -dsimp -implicitDefEqProofs only [go_sem];all_goals (first|exact rfl|skip)
   rw [if_neg hl];have dl:decide ((n:Int)≥((d.a.getD 0 []).length:Int))=true:=dT (by omega);generalize aA d.m d.a d.k (d.a.getD 0 []).length=LL at*;generalize (d.a.getD 0 []).length=D at*;subst hll;refine Fn.av 153 [.tmp 6,.tmp 7] func85 (hv:= ?_);simp -dsimp -implicitDefEqProofs only [go_sem,w1,uq7,uq8];((with_reducible and_intros);all_goals try (omega));refine ak.draw mixed rfl ?_;simp -dsimp -implicitDefEqProofs only [go_sem];refine aI hs (by simp [ay,ao,aH]) ?_;simp -dsimp -implicitDefEqProofs only [go_sem];refine aI hq (by simp [ay,ao,au,aH]) ?_;simp -dsimp -implicitDefEqProofs only [go_sem,e0,uq7,uq8];((with_reducible and_intros);all_goals try first|omega|exact rfl);all_goals try simp -dsimp -implicitDefEqProofs only [go_sem,dl]
 rw [if_neg hc] at hq ⊢;have e0:(bY d.m d.a d.k != 0)=true:=bne_iff_ne.2 hc;generalize bY d.m d.a d.k=c at*;refine Fn.av 153 [.tmp 6,.tmp 7] func85 (hv:= ?_);simp -dsimp -implicitDefEqProofs only [go_sem,w1,uq7,uq8];((with_reducible and_intros);all_goals try (omega));refine ak.draw mixed rfl ?_;simp -dsimp -implicitDefEqProofs only [go_sem];refine aI hs (by simp [ay,ao,aH]) ?_;simp -dsimp -implicitDefEqProofs only [go_sem];refine aI hq (by simp [ay,ao,au,aH]) ?_;simp -dsimp -implicitDefEqProofs only [go_sem,e0];all_goals (first|exact rfl|skip)
theorem GU (d:Dk) (hk:la d=true) (x:lU) (hx:x.length<=1048576):Fn pG 85 [.bu ⟨7,true⟩ [lz d] 0 0,nC [dv,x],aM []] true (· = .aZ [eS (ca [] d (.opens x)).1,eI (ca [] d (.opens x)).2]):=by
 obtain ⟨hF,ha1,ha2,hk1,hk2⟩:=dkA hk;have hs:=kF d;have hr:=Fn.shared (yO d.m x hx);have w1:decide (dv=[108,111,99,107])=false:=by decide
 have w2:decide (dv=[111,112,101,110,115])=true:=by decide
 simp only [ca];by_cases hc:(kg d.m x).2=0
 . have hkl:(kg d.m x).1.length<=1048576:=by
    unfold kg;split
    . split
      . rw [dc];exact hx
      simp
    simp
   have hq:=Fn.shared (yR d.m d.a d.k ha1 ha2 hk1 hk2 (kg d.m x).1 hkl);have hin:=Qy (m:=d.m) (t:=d.a) (ae:=d.k) (c:=(kg d.m x).1);rw [if_pos hc];rw [hc] at hr;have e0:((0:Int) != 0)=false:=rfl;generalize (kg d.m x).1=K at*;generalize B8 d.m d.a d.k K=D at*;obtain ⟨D1,D2⟩:=D;simp only at hq hin ⊢;by_cases h2:D2=0
   . rw [if_pos h2];subst h2;have hl:=I4 D1 (by omega) hin.2;refine Fn.av 153 [.tmp 6,.tmp 7] func85 (hv:= ?_);simp -dsimp -implicitDefEqProofs only [go_sem,w1,w2,uq7,uq8];((with_reducible and_intros);all_goals try (omega));refine ak.draw mixed rfl ?_;simp -dsimp -implicitDefEqProofs only [go_sem];((with_reducible and_intros);all_goals try (omega));refine aI hr (by simp [ay,ao,au,aH]) ?_;simp -dsimp -implicitDefEqProofs only [go_sem,e0];((with_reducible and_intros);all_goals try (exact rfl));refine ak.draw mixed rfl ?_;simp -dsimp -implicitDefEqProofs only [go_sem];refine aI hs (by simp [ay,ao,aH]) ?_;simp -dsimp -implicitDefEqProofs only [go_sem];refine aI hq (by simp [ay,ao,au,aH]) ?_;simp -dsimp -implicitDefEqProofs only [go_sem,e0];((with_reducible and_intros);all_goals try (exact rfl));refine ab hl ?_;simp -dsimp -implicitDefEqProofs only [go_sem]
   rw [if_neg h2];have e1:(D2 != 0)=true:=bne_iff_ne.2 h2;refine Fn.av 153 [.tmp 6,.tmp 7] func85 (hv:= ?_);simp -dsimp -implicitDefEqProofs only [go_sem,w1,w2,uq7,uq8];((with_reducible and_intros);all_goals try (omega));refine ak.draw mixed rfl ?_;simp -dsimp -implicitDefEqProofs only [go_sem];((with_reducible and_intros);all_goals try (omega));refine aI hr (by simp [ay,ao,au,aH]) ?_;simp -dsimp -implicitDefEqProofs only [go_sem,e0];((with_reducible and_intros);all_goals try (exact rfl));refine ak.draw mixed rfl ?_;simp -dsimp -implicitDefEqProofs only [go_sem];refine aI hs (by simp [ay,ao,aH]) ?_;simp -dsimp -implicitDefEqProofs only [go_sem];refine aI hq (by simp [ay,ao,au,aH]) ?_;simp -dsimp -implicitDefEqProofs only [go_sem,e1];all_goals (first|exact rfl|skip)
 rw [if_neg hc];have e0:((kg d.m x).2 != 0)=true:=bne_iff_ne.2 hc;generalize kg d.m x=K at*;refine Fn.av 153 [.tmp 6,.tmp 7] func85 (hv:= ?_);simp -dsimp -implicitDefEqProofs only [go_sem,w1,w2,uq7,uq8];((with_reducible and_intros);all_goals try (omega));refine ak.draw mixed rfl ?_;simp -dsimp -implicitDefEqProofs only [go_sem];((with_reducible and_intros);all_goals try (omega));refine aI hr (by simp [ay,ao,au,aH]) ?_;simp -dsimp -implicitDefEqProofs only [go_sem,e0];(all_goals try (exact rfl))
theorem GV (d:Dk) (hk:la d=true):Fn pG 85 [.bu ⟨7,true⟩ [lz d] 0 0,nC [eu],aM []] true (· = .aZ [eS (ca [] d .pa).1,eI (ca [] d .pa).2]):=by
 obtain ⟨hF,ha1,ha2,hk1,hk2⟩:=dkA hk;have hs:=kF d;have hq:Fn pG 123 [jR d.m d.a,aR d.k,eI 1] false (· = .aZ [aR (yZ d.m d.a d.k),eI (if bm d.m d.a d.k=true then 0 else 1)]):=Fn.vK (Fn.mono (QE d.m d.a d.k ha1 ha2 hk1 hk2) fun x hx=>⟨_,hx,rfl⟩);have hw:=fun g=>GS (m:=d.m) (t:=d.a) (ae:=d.k) (g:=g);have hkt:=fun g hg=>M4 d.m g hg;have w1:decide (eu=[108,111,99,107])=false:=by decide
 have w2:decide (eu=[111,112,101,110,115])=false:=by decide
 have w3:decide (eu=[119,111,114,115,116])=true:=by decide
 simp only [ca];generalize yZ d.m d.a d.k=L at*;rcases L with _|⟨g,L⟩
 . have e1:(((([]:lL).length:Nat):Int)==0)=true:=rfl;rcases hdz:((if bm d.m d.a d.k=true then (0:Int) else 1) != 0) with _|_
   . generalize (if bm d.m d.a d.k=true then (0:Int) else 1)=c at*;refine Fn.av 153 [.tmp 6,.tmp 7] func85 (hv:= ?_);simp -dsimp -implicitDefEqProofs only [go_sem,w1,w2,w3,uq7,uq8];((with_reducible and_intros);all_goals try (omega));refine ak.draw mixed rfl ?_;simp -dsimp -implicitDefEqProofs only [go_sem];refine aI hs (by simp [ay,ao,aH]) ?_;simp -dsimp -implicitDefEqProofs only [go_sem];refine aI hq (by simp [ay,ao,au,aH]) ?_;simp -dsimp -implicitDefEqProofs only [go_sem,hdz,uq8,uq5];(all_goals try (exact rfl))
   generalize (if bm d.m d.a d.k=true then (0:Int) else 1)=c at*;refine Fn.av 153 [.tmp 6,.tmp 7] func85 (hv:= ?_);simp -dsimp -implicitDefEqProofs only [go_sem,w1,w2,w3,uq7,uq8];((with_reducible and_intros);all_goals try (omega));refine ak.draw mixed rfl ?_;simp -dsimp -implicitDefEqProofs only [go_sem];refine aI hs (by simp [ay,ao,aH]) ?_;simp -dsimp -implicitDefEqProofs only [go_sem];refine aI hq (by simp [ay,ao,au,aH]) ?_;simp -dsimp -implicitDefEqProofs only [go_sem,hdz,uq8];(all_goals try (exact rfl))
 obtain ⟨g1,g2,g3⟩:=hw g (by simp);have gl:g.length<=1048576:=by have:=(gw (m:=d.m) (c:=g) (beq_iff_eq.2 g3)).1;have:=hF.num;omega
 have hkg:=hkt g gl;have ek:XC d.m g=(o8 g,0):=by rw [XC,if_pos g2,if_pos g3]
 rw [ek] at hkg;rw [if_pos g1] at hq ⊢;have e0:((0:Int) != 0)=false:=rfl;have e1:((((L.length+1:Nat):Nat):Int)==0)=false:=by rw [beq_eq_false_iff_ne];omega
 clear hw hkt;refine Fn.av 153 [.tmp 6,.tmp 7] func85 (hv:= ?_);simp -dsimp -implicitDefEqProofs only [go_sem,w1,w2,w3,uq7,uq8];((with_reducible and_intros);all_goals try (omega));refine ak.draw mixed rfl ?_;simp -dsimp -implicitDefEqProofs only [go_sem];refine aI hs (by simp [ay,ao,aH]) ?_;simp -dsimp -implicitDefEqProofs only [go_sem];refine aI hq (by simp [ay,ao,au,aH]) ?_;simp -dsimp -implicitDefEqProofs only [go_sem,e0,e1,uq7,uq3];((with_reducible and_intros);all_goals try (exact rfl));refine ak.draw mixed rfl ?_;simp -dsimp -implicitDefEqProofs only [go_sem,uq7,uq3];((with_reducible and_intros);all_goals try (omega));refine an hkg ?_;simp -dsimp -implicitDefEqProofs only [go_sem];all_goals (first|exact rfl|skip)
theorem GW (d:Dk) (hk:la d=true) (x y:lU) (n s:Nat) (hn:n<=9999999999999/\s<=9999999999999):Fn pG 85 [.bu ⟨7,true⟩ [lz d] 0 0,nC [dZ,x,y],aM [n,s]] true (· = .aZ [eS (ca [] d (.pc n s)).1,eI (ca [] d (.pc n s)).2]):=by
 obtain ⟨hF,ha1,ha2,hk1,hk2⟩:=dkA hk;have w1:decide (dZ=[108,111,99,107])=false:=by decide
 have w2:decide (dZ=[111,112,101,110,115])=false:=by decide
 have w3:decide (dZ=[119,111,114,115,116])=false:=by decide
 have w4:decide (dZ=[115,116,97,109,112])=true:=by decide
 simp only [ca];by_cases hl:n<d.k.length
 . rw [if_pos hl];have gn:=get_some hl;have ek:d.k.getD n []=d.k[n]:=by rw [List.getD_eq_getElem?_getD,gn];rfl
   rw [ek];have hq:=I8 d.m d.k[n] 0 (s:Int) (hk2 _ (List.getElem_mem hl));have dl:decide ((n:Int)≥(d.k.length:Int))=false:=dF (by omega);generalize j7 d.m d.k[n] 0 (s:Int)=T at*;generalize d.k[n]=K at*;refine Fn.av 153 [.tmp 6,.tmp 7] func85 (hv:= ?_);simp -dsimp -implicitDefEqProofs only [go_sem,w1,w2,w3,w4,uq7,uq8];((with_reducible and_intros);all_goals try (omega));refine ak.draw mixed rfl ?_;simp -dsimp -implicitDefEqProofs only [go_sem];((with_reducible and_intros);all_goals try first|omega|exact rfl);all_goals try simp -dsimp -implicitDefEqProofs only [go_sem,dl]
   refine ak.draw mixed rfl ?_;simp -dsimp -implicitDefEqProofs only [go_sem,gn];((with_reducible and_intros);all_goals try (omega));refine an hq ?_;simp -dsimp -implicitDefEqProofs only [go_sem];all_goals (first|exact rfl|skip)
 rw [if_neg hl];have dl:decide ((n:Int)≥(d.k.length:Int))=true:=dT (by omega);refine Fn.av 153 [.tmp 6,.tmp 7] func85 (hv:= ?_);simp -dsimp -implicitDefEqProofs only [go_sem,w1,w2,w3,w4,uq7,uq8];((with_reducible and_intros);all_goals try (omega));refine ak.draw mixed rfl ?_;simp -dsimp -implicitDefEqProofs only [go_sem];((with_reducible and_intros);all_goals try first|omega|exact rfl);all_goals try simp -dsimp -implicitDefEqProofs only [go_sem,dl]
theorem Cn {α β:Type} (f:α->β) (xs:List α) (n:Nat):(xs.map f).eraseIdx n=(xs.eraseIdx n).map f:=by
 apply List.ext_getElem?
 intro p;simp only [List.getElem?_eraseIdx,List.getElem?_map];split<;>rfl
theorem GX (d:Dk) (hk:la d=true) (x1 x2 x3 x4 x5:lU) (n1 n2 n3 n4 n5:Nat) (va vk:Nat):fN pG 84 (zH va vk d) [.ptr 1900000006 0 0 0,nC [gU,x1,x2,x3,x4,x5],aM [n1,n2,n3,n4,n5]] (fun r m'=>r=eI (dU d (.lf ⟨n1,n2,n3,n4,n5⟩)).2/\m'=zH (va+1) (vk+1) (dU d (.lf ⟨n1,n2,n3,n4,n5⟩)).1):=by
 refine fN.dk (fN.tq 109 [.tmp 6] func84 rfl rfl rfl rfl rfl (oT rfl) (by decide) ?_);have hm:=eR ⟨n1,n2,n3,n4,n5⟩;have w1:decide (gU=[109,97,107,101,114])=true:=by decide
 simp only [dU];rw [gV];rcases ky:a6 ⟨n1,n2,n3,n4,n5⟩ with _|_
 . rw [ky] at hm;rw [if_neg (by simp)];simp -dsimp -implicitDefEqProofs only [go_sem,w1,uq4,uq7,uq8];((with_reducible and_intros);all_goals try (omega));refine ak.draw mixed rfl ?_;simp -dsimp -implicitDefEqProofs only [go_sem];((with_reducible and_intros);all_goals try first|omega|exact rfl);refine ab hm ?_;simp -dsimp -implicitDefEqProofs only [go_sem];((refine pd (oa:=some 1900000500) (oc:=some 1900000501) rfl ?_ (ep.mk ?_ rfl) (ep.mk ?_ rfl) ?_ ?_ ?_ ⟨rfl,rfl,?_,?_⟩);all_goals first|exact rfl|(simp;done)|skip)
 rw [ky] at hm;rw [if_pos rfl];simp -dsimp -implicitDefEqProofs only [go_sem,w1,uq4,uq7,uq8];((with_reducible and_intros);all_goals try (omega));refine ak.draw mixed rfl ?_;simp -dsimp -implicitDefEqProofs only [go_sem];((with_reducible and_intros);all_goals try first|omega|exact rfl);refine ab hm ?_;simp -dsimp -implicitDefEqProofs only [go_sem];refine pd (oa:=none) (oc:=none) rfl ?_ .nil .nil ?_ ?_ ?_ ⟨rfl,rfl,?_,?_⟩;all_goals first|exact rfl|(simp;done)|skip
theorem Nr (d:Dk) (hk:la d=true) (x y:lU) (hx:x.length<=1000000) (hy:y.length<=1000000) (va vk:Nat):fN pG 84 (zH va vk d) [.ptr 1900000006 0 0 0,nC [k9,x,y],aM []] (fun r m'=>r=eI (dU d (.key x y)).2/\m'=zH (va+1) (vk+1) (dU d (.key x y)).1):=by
 refine fN.dk (fN.tq 109 [.tmp 6] func84 rfl rfl rfl rfl rfl (oT rfl) (by decide) ?_);have hq:=QT d hk x y hx hy va vk;have w1:decide (k9=[109,97,107,101,114])=false:=by decide
 have w2:decide (k9=[107,101,121])=true:=by decide
 simp only [dU];generalize vN d x y=q at*;rw [gV];simp -dsimp -implicitDefEqProofs only [go_sem,w1,w2,uq4,uq7,uq8];((with_reducible and_intros);all_goals try (omega));refine ak.ly 7 mixed rfl ?_;simp -dsimp -implicitDefEqProofs only [cr,bQ,uq1,uq2];simp -dsimp -implicitDefEqProofs only [go_sem];((with_reducible and_intros);all_goals try first|omega|exact rfl);refine c7 hq ⟨⟨?_,?_⟩,?_,?_⟩ ?_
 . simp -dsimp -implicitDefEqProofs only [go_sem,kT]
 . simp -dsimp -implicitDefEqProofs only [go_sem,gV,uq4];all_goals try (simp;done)
 . simp -dsimp -implicitDefEqProofs only [go_sem,gV,uq4]
 . simp -dsimp -implicitDefEqProofs only [go_sem,kT];all_goals try (simp;done)
 rintro r m' ⟨hr,hm'⟩;rw [hr,hm'];simp only [zH,gV];simp -dsimp -implicitDefEqProofs only [go_sem,uq4];((refine pd (oa:=some 1900000500) (oc:=some 1900000501) rfl ?_ (ep.mk ?_ rfl) (ep.mk ?_ rfl) ?_ ?_ ?_ ⟨rfl,rfl,?_,?_⟩);all_goals first|exact rfl|(simp;done)|skip)
theorem Jn (d:Dk) (hk:la d=true) (x:lU) (n:Nat) (hn:n<=9999999999999) (va vk:Nat):fN pG 84 (zH va vk d) [.ptr 1900000006 0 0 0,nC [iH,x],aM [n]] (fun r m'=>r=eI (dU d (.drop n)).2/\m'=zH (va+1) (vk+1) (dU d (.drop n)).1):=by
 refine fN.dk (fN.tq 109 [.tmp 6] func84 rfl rfl rfl rfl rfl (oT rfl) (by decide) ?_);obtain ⟨hF,ha1,ha2,hk1,hk2⟩:=dkA hk;have hi:=kU (n:Int) 0 ((d.k.length:Int)-1);have hal:=hF.al;have hkl:=hF.kl;have hl1:=fG d.a (by omega) hF.Ty;have hl2:=fG d.k (by omega) hF.Wf;have w1:decide (iH=[109,97,107,101,114])=false:=by decide
 have w2:decide (iH=[107,101,121])=false:=by decide
 have w3:decide (iH=[100,114,111,112])=true:=by decide
 simp only [dU];rw [gV];have t1:(d.a.map aM).take d.a.length=d.a.map aM:=bW (by simp);have t2:(d.k.map aM).take d.k.length=d.k.map aM:=bW (by simp);by_cases hl:n<d.k.length
 . rw [show bF (n:Int) 0 ((d.k.length:Int)-1)=true by simp only [bF,uq0,decide_eq_true_eq];omega] at hi;rw [if_pos hl];simp -dsimp -implicitDefEqProofs only [go_sem,w1,w2,w3,uq4,uq7,uq8];((with_reducible and_intros);all_goals try (omega));refine ak.draw mixed rfl ?_;simp -dsimp -implicitDefEqProofs only [go_sem];((with_reducible and_intros);all_goals try first|omega|(refine ⟨?_,?_⟩<;>omega));refine an hi ?_;simp -dsimp -implicitDefEqProofs only [go_sem];((with_reducible and_intros);all_goals try first|omega|exact rfl);refine ak.draw mixed rfl ?_;simp -dsimp -implicitDefEqProofs only [go_sem,t1];refine an hl1 ?_;simp -dsimp -implicitDefEqProofs only [go_sem,uq4];((with_reducible and_intros);all_goals try ((refine ⟨?_,?_⟩<;>omega)));refine yl (sh:=⟨1,false⟩) (zs:=[.slice none 0 0]) ⟨Tryz.f114,_,func114,by decide,rfl⟩ rfl (by simp) (by simp;omega) (by decide) rfl (by intro u hu;rw [uq9] at hu;subst hu;rfl) (fun w b cap cs e hb hcs cj hle h1=> ?_) ?_
   . have h9:=vi w b cap n (n+1) (d.a.map aM).length cs e hb hcs cj rfl (by simp;omega) hle h1;simpa only [Nat.mul_one] using h9
   rw [Cn,uq4];simp -dsimp -implicitDefEqProofs only [go_sem];refine an hl2 ?_;simp -dsimp -implicitDefEqProofs only [go_sem,uq4];((with_reducible and_intros);all_goals try ((refine ⟨?_,?_⟩<;>omega)));refine yl (sh:=⟨1,false⟩) (zs:=[.slice none 0 0]) ⟨Tryz.f114,_,func114,by decide,rfl⟩ rfl (by simp) (by simp;omega) (by decide) rfl (by intro u hu;rw [uq9] at hu;subst hu;rfl) (fun w b cap cs e hb hcs cj hle h1=> ?_) ?_
   . have h9:=vi w b cap n (n+1) (d.k.map aM).length cs e hb hcs cj rfl (by simp;omega) hle h1;simpa only [Nat.mul_one] using h9
   rw [Cn,uq4];simp -dsimp -implicitDefEqProofs only [go_sem];((with_reducible and_intros);all_goals try (exact rfl));have el1:(d.a.eraseIdx n).length=d.a.length-1:=by rw [List.length_eraseIdx,if_pos (by omega)]
   have el2:(d.k.eraseIdx n).length=d.k.length-1:=by rw [List.length_eraseIdx,if_pos (by omega)]
   ((refine pd (oa:=some 73000) (oc:=some 82000) rfl ?_ (ep.mk ?_ rfl) (ep.mk ?_ rfl) ?_ ?_ ?_ ⟨rfl,rfl,?_,?_⟩);all_goals first|exact rfl|(simp;done)|(rw [uq4];omega)|skip)
 rw [show bF (n:Int) 0 ((d.k.length:Int)-1)=false by rw [Bool.eq_false_iff];simp only [bF,ne_eq,uq0,decide_eq_true_eq];omega] at hi;rw [if_neg hl];simp -dsimp -implicitDefEqProofs only [go_sem,w1,w2,w3,uq4,uq7,uq8];((with_reducible and_intros);all_goals try (omega));refine ak.draw mixed rfl ?_;simp -dsimp -implicitDefEqProofs only [go_sem];((with_reducible and_intros);all_goals try first|omega|(refine ⟨?_,?_⟩<;>omega));refine an hi ?_;simp -dsimp -implicitDefEqProofs only [go_sem];((with_reducible and_intros);all_goals try (exact rfl));((refine pd (oa:=some 1900000500) (oc:=some 1900000501) rfl ?_ (ep.mk ?_ rfl) (ep.mk ?_ rfl) ?_ ?_ ?_ ⟨rfl,rfl,?_,?_⟩);all_goals first|exact rfl|(simp;done)|skip)
theorem Jo (d:Dk) (hk:la d=true) (x:lU) (n:Nat) (hn:n<=9999999999999) (va vk:Nat):fN pG 84 (zH va vk d) [.ptr 1900000006 0 0 0,nC [gY,x],aM [n]] (fun r m'=>r=eI (dU d (.find n)).2/\m'=zH (va+1) (vk+1) (dU d (.find n)).1):=by
 refine fN.dk (fN.tq 109 [.tmp 6] func84 rfl rfl rfl rfl rfl (oT rfl) (by decide) ?_);obtain ⟨hF,ha1,ha2,hk1,hk2⟩:=dkA hk;have hal:=hF.al;have hq:=QP d.m d.a n ha1 ha2;have w1:decide (gY=[109,97,107,101,114])=false:=by decide
 have w2:decide (gY=[107,101,121])=false:=by decide
 have w3:decide (gY=[100,114,111,112])=false:=by decide
 have w4:decide (gY=[102,105,110,100])=true:=by decide
 simp only [dU];rw [gV];have t1:(d.a.map aM).take d.a.length=d.a.map aM:=bW (by simp);generalize gO d.m d.a n=q at*;by_cases hc:q.2.2=0
 . rw [if_pos hc];rw [hc] at hq;have e0:((0:Int) != 0)=false:=rfl;simp -dsimp -implicitDefEqProofs only [go_sem,w1,w2,w3,w4,uq4,uq7,uq8];((with_reducible and_intros);all_goals try (omega));refine ak.draw mixed rfl ?_;simp -dsimp -implicitDefEqProofs only [go_sem];refine uY 6 ?_ rfl ?_
   . exact fun us h1 h2=>Cm us h1 h2
   simp -dsimp -implicitDefEqProofs only [go_sem,cr,bQ];((with_reducible and_intros);all_goals try (omega));refine an hq ?_;simp -dsimp -implicitDefEqProofs only [go_sem,e0];((with_reducible and_intros);all_goals try (exact rfl));((refine pd (oa:=some 1900000500) (oc:=some 99000) rfl ?_ (ep.mk ?_ rfl) (ep.mk ?_ rfl) ?_ ?_ ?_ ⟨rfl,rfl,?_,?_⟩);all_goals first|exact rfl|(simp;done)|skip)
 rw [if_neg hc];have e0:(q.2.2 != 0)=true:=bne_iff_ne.2 hc;simp -dsimp -implicitDefEqProofs only [go_sem,w1,w2,w3,w4,uq4,uq7,uq8];((with_reducible and_intros);all_goals try (omega));refine ak.draw mixed rfl ?_;simp -dsimp -implicitDefEqProofs only [go_sem];refine uY 6 ?_ rfl ?_
 . exact fun us h1 h2=>Cm us h1 h2
 simp -dsimp -implicitDefEqProofs only [go_sem,cr,bQ];((with_reducible and_intros);all_goals try (omega));refine an hq ?_;simp -dsimp -implicitDefEqProofs only [go_sem,e0];((with_reducible and_intros);all_goals try (exact rfl));((refine pd (oa:=some 1900000500) (oc:=some 1900000501) rfl ?_ (ep.mk ?_ rfl) (ep.mk ?_ rfl) ?_ ?_ ?_ ⟨rfl,rfl,?_,?_⟩);all_goals first|exact rfl|(simp;done)|skip)
theorem Jp (d:Dk) (hk:la d=true):Fn pG 80 [lz d,nC [iZ],aM []] true (· = .aZ [eS (ca [45] d .NH).1,eI (ca [45] d .NH).2]):=by
 obtain ⟨hF,ha1,ha2,hk1,hk2⟩:=dkA hk;have hq:=tU d.m d.a d.k ha1 ha2 hk1 hk2;have hn:=Cl hk;have ht:=fm ((mT d.m d.a d.k).length:Int) (by omega);have w1:decide (iZ=[102,97,108,115,101])=true:=by decide
 simp only [ca];generalize mT d.m d.a d.k=L at*;generalize bY d.m d.a d.k=c at*;refine Fn.av 164 [.tmp 6,.tmp 7] func80 (hv:= ?_);simp -dsimp -implicitDefEqProofs only [go_sem,w1,uq7,uq8];((with_reducible and_intros);all_goals try (omega));refine ax hq (by simp [ay,ao,au,aH]) ?_;simp -dsimp -implicitDefEqProofs only [go_sem];refine ab ht ?_;simp -dsimp -implicitDefEqProofs only [go_sem]
theorem zK (d:Dk) (hk:la d=true):Fn pG 80 [lz d,nC [e6],aM []] true (· = .aZ [eS (ca [45] d .cq).1,eI (ca [45] d .cq).2]):=by
 obtain ⟨hF,ha1,ha2,hk1,hk2⟩:=dkA hk;have hq:=yV d.m d.a d.k ha1 ha2 hk1 hk2;have hn:=ra hF.pR d.a d.k;have hb:0<=(if bm d.m d.a d.k=true then ((cq d.m d.a d.k).length:Int) else 0)/\(if bm d.m d.a d.k=true then ((cq d.m d.a d.k).length:Int) else 0)<=262144:=by split<;>omega
 have ht:=fm (if bm d.m d.a d.k=true then ((cq d.m d.a d.k).length:Int) else 0) (by omega);have w1:decide (e6=[102,97,108,115,101])=false:=by decide
 have w2:decide (e6=[103,104,111,115,116,115])=true:=by decide
 simp only [ca];generalize (if bm d.m d.a d.k=true then ((cq d.m d.a d.k).length:Int) else 0)=L at*;generalize (if bm d.m d.a d.k=true then (0:Int) else 1)=c at*;refine Fn.av 164 [.tmp 6,.tmp 7] func80 (hv:= ?_);simp -dsimp -implicitDefEqProofs only [go_sem,w1,w2,uq7,uq8];((with_reducible and_intros);all_goals try (omega));refine ab hq ?_;simp -dsimp -implicitDefEqProofs only [go_sem];refine ab ht ?_;simp -dsimp -implicitDefEqProofs only [go_sem]
theorem Dz (d:Dk) (hk:la d=true):Fn pG 80 [lz d,nC [fS],aM []] true (· = .aZ [eS (ca [45] d .count).1,eI (ca [45] d .count).2]):=by
 obtain ⟨hF,ha1,ha2,hk1,hk2⟩:=dkA hk;have hq:=Dn d.m;have hn:=qY hF.pR;have hb:0<=(if a6 d.m=true then iK d.m else 0)/\(if a6 d.m=true then iK d.m else 0)<=262144:=by split<;>omega
 have ht:=fm (if a6 d.m=true then iK d.m else 0) (by omega);have w1:decide (fS=[102,97,108,115,101])=false:=by decide
 have w2:decide (fS=[103,104,111,115,116,115])=false:=by decide
 have w3:decide (fS=[99,111,117,110,116])=true:=by decide
 simp only [ca];generalize (if a6 d.m=true then iK d.m else 0)=L at*;generalize (if a6 d.m=true then (0:Int) else 1)=c at*;refine Fn.av 164 [.tmp 6,.tmp 7] func80 (hv:= ?_);simp -dsimp -implicitDefEqProofs only [go_sem,w1,w2,w3,uq7,uq8];((with_reducible and_intros);all_goals try (omega));refine ab hq ?_;simp -dsimp -implicitDefEqProofs only [go_sem];refine ab ht ?_;simp -dsimp -implicitDefEqProofs only [go_sem]
theorem zL (d:Dk) (hk:la d=true):Fn pG 80 [lz d,nC [dr],aM []] true (· = .aZ [eS (ca [45] d .ka).1,eI (ca [45] d .ka).2]):=by
 obtain ⟨hF,ha1,ha2,hk1,hk2⟩:=dkA hk;have hq:=vM d.m d.a d.k ha1 ha2 hk1 hk2;have hb:0<=(if bm d.m d.a d.k=true then og d.m d.a d.k else 0)/\(if bm d.m d.a d.k=true then og d.m d.a d.k else 0)<=1000000:=by
  split
  . rename_i h;exact KA h
  omega
 have ht:=fm (if bm d.m d.a d.k=true then og d.m d.a d.k else 0) (by omega);have w1:decide (dr=[102,97,108,115,101])=false:=by decide
 have w2:decide (dr=[103,104,111,115,116,115])=false:=by decide
 have w3:decide (dr=[99,111,117,110,116])=false:=by decide
 have w4:decide (dr=[119,97,102,101,114,115])=true:=by decide
 simp only [ca];generalize (if bm d.m d.a d.k=true then og d.m d.a d.k else 0)=L at*;generalize (if bm d.m d.a d.k=true then (0:Int) else 1)=c at*;refine Fn.av 164 [.tmp 6,.tmp 7] func80 (hv:= ?_);simp -dsimp -implicitDefEqProofs only [go_sem,w1,w2,w3,w4,uq7,uq8];((with_reducible and_intros);all_goals try (omega));refine ab hq ?_;simp -dsimp -implicitDefEqProofs only [go_sem];refine ab ht ?_;simp -dsimp -implicitDefEqProofs only [go_sem]
theorem GY (d:Dk) (hk:la d=true) (x:lU) (n:Nat) (hn:n<=9999999999999):Fn pG 80 [lz d,nC [jk,x],aM [n]] true (· = .aZ [eS (ca [45] d (.lock n)).1,eI (ca [45] d (.lock n)).2]):=by
 obtain ⟨hF,ha1,ha2,hk1,hk2⟩:=dkA hk;have hq:=Jb d.m d.a d.k ha1 ha2 hk1 hk2;have w1:decide (jk=[102,97,108,115,101])=false:=by decide
 have w2:decide (jk=[103,104,111,115,116,115])=false:=by decide
 have w3:decide (jk=[99,111,117,110,116])=false:=by decide
 have w4:decide (jk=[119,97,102,101,114,115])=false:=by decide
 have w5:decide (jk=[108,111,99,107])=true:=by decide
 simp only [ca];by_cases hc:bY d.m d.a d.k=0
 . obtain ⟨h1,h2⟩:=ir hc;rw [if_pos hc] at hq ⊢;rw [hc] at hq;have e0:((0:Int) != 0)=false:=rfl;have hll:=dO d.m d.a d.k (d.a.getD 0 []).length;by_cases hl:n<(d.a.getD 0 []).length
   . rw [if_pos hl];have hg:=jT d.m d.a d.k hl;have h8:∀x∈bT d.m d.a d.k n,x.length<=8:=fun x hx=>by
      have:=iF d.m d.a d.k n x hx;have:=hF.num;omega
     have hp:=GI d.m (bT d.m d.a d.k n) hF.pR (y5 h1 h2 hl) h8;have dl:decide ((n:Int)≥((d.a.getD 0 []).length:Int))=false:=dF (by omega);generalize pZ (pins d.m (bT d.m d.a d.k n))=T at*;have hlx:n<(aA d.m d.a d.k (d.a.getD 0 []).length).length:=by omega
     generalize bT d.m d.a d.k n=lk at*;generalize aA d.m d.a d.k (d.a.getD 0 []).length=LL at*;generalize (d.a.getD 0 []).length=D at*;subst hll;refine Fn.av 164 [.tmp 6,.tmp 7] func80 (hv:= ?_);simp -dsimp -implicitDefEqProofs only [go_sem,w1,w2,w3,w4,w5,uq7,uq8];((with_reducible and_intros);all_goals try (omega));refine ax hq (by simp [ay,ao,au,aH]) ?_;simp -dsimp -implicitDefEqProofs only [go_sem,e0,uq7,uq8];((with_reducible and_intros);all_goals try (omega));all_goals try simp -dsimp -implicitDefEqProofs only [go_sem,dl]
     refine ak.draw mixed rfl ?_;simp -dsimp -implicitDefEqProofs only [go_sem,hg,uq7,uq8];((with_reducible and_intros);all_goals try (omega));refine an hp ?_;simp -dsimp -implicitDefEqProofs only [go_sem];all_goals (first|exact rfl|skip)
   rw [if_neg hl];have dl:decide ((n:Int)≥((d.a.getD 0 []).length:Int))=true:=dT (by omega);generalize aA d.m d.a d.k (d.a.getD 0 []).length=LL at*;generalize (d.a.getD 0 []).length=D at*;subst hll;refine Fn.av 164 [.tmp 6,.tmp 7] func80 (hv:= ?_);simp -dsimp -implicitDefEqProofs only [go_sem,w1,w2,w3,w4,w5,uq7,uq8];((with_reducible and_intros);all_goals try (omega));refine ax hq (by simp [ay,ao,au,aH]) ?_;simp -dsimp -implicitDefEqProofs only [go_sem,e0,uq7,uq8];((with_reducible and_intros);all_goals try (omega));all_goals try simp -dsimp -implicitDefEqProofs only [go_sem,dl]
 rw [if_neg hc] at hq ⊢;have e0:(bY d.m d.a d.k != 0)=true:=bne_iff_ne.2 hc;generalize bY d.m d.a d.k=c at*;refine Fn.av 164 [.tmp 6,.tmp 7] func80 (hv:= ?_);simp -dsimp -implicitDefEqProofs only [go_sem,w1,w2,w3,w4,w5,uq7,uq8];((with_reducible and_intros);all_goals try (omega));refine ax hq (by simp [ay,ao,au,aH]) ?_;simp -dsimp -implicitDefEqProofs only [go_sem,e0]
theorem DA (d:Dk) (hk:la d=true) (x:lU) (hx:x.length<=1048576):Fn pG 80 [lz d,nC [dv,x],aM []] true (· = .aZ [eS (ca [45] d (.opens x)).1,eI (ca [45] d (.opens x)).2]):=by
 obtain ⟨hF,ha1,ha2,hk1,hk2⟩:=dkA hk;have hr:=Fn.shared (yP d.m x hx);have w1:decide (dv=[102,97,108,115,101])=false:=by decide
 have w2:decide (dv=[103,104,111,115,116,115])=false:=by decide
 have w3:decide (dv=[99,111,117,110,116])=false:=by decide
 have w4:decide (dv=[119,97,102,101,114,115])=false:=by decide
 have w5:decide (dv=[108,111,99,107])=false:=by decide
 have w6:decide (dv=[111,112,101,110,115])=true:=by decide
 simp only [ca];by_cases hc:(kg d.m x).2=0
 . have hkl:(kg d.m x).1.length<=1048576:=by
    unfold kg;split
    . split
      . rw [dc];exact hx
      simp
    simp
   have hq:=Fn.shared (yT d.m d.a d.k ha1 ha2 hk1 hk2 (kg d.m x).1 hkl);have hin:=Qy (m:=d.m) (t:=d.a) (ae:=d.k) (c:=(kg d.m x).1);have jy:(B8 d.m d.a d.k (kg d.m x).1).2≠0->(B8 d.m d.a d.k (kg d.m x).1).1=[]:=by
    unfold B8;split
    . split
      . intro h;exact absurd rfl h
      intro _;rfl
    intro _;rfl
   rw [if_pos hc];rw [hc] at hr;have e0:((0:Int) != 0)=false:=rfl;generalize (kg d.m x).1=K at*;generalize B8 d.m d.a d.k K=D at*;obtain ⟨D1,D2⟩:=D;simp only at hq hin jy ⊢;have hl:=M0 D1 (by omega) hin.2;have hR:(if D2=0 then (yN D1,(0:Int)) else ([45],D2))=(yN D1,D2):=by
    split
    . rename_i h;rw [h]
    rename_i h;rw [jy h];rfl
   rw [hR];clear hR jy;refine Fn.av 164 [.tmp 6,.tmp 7] func80 (hv:= ?_);simp -dsimp -implicitDefEqProofs only [go_sem,w1,w2,w3,w4,w5,w6,uq7,uq8];((with_reducible and_intros);all_goals try (omega));refine ak.draw mixed rfl ?_;simp -dsimp -implicitDefEqProofs only [go_sem];((with_reducible and_intros);all_goals try (omega));refine aI hr (by simp [ay,ao,au,aH]) ?_;simp -dsimp -implicitDefEqProofs only [go_sem,e0];((with_reducible and_intros);all_goals try (exact rfl));refine ax hq (by simp [ay,ao,au,aH]) ?_;simp -dsimp -implicitDefEqProofs only [go_sem];refine ab hl ?_;simp -dsimp -implicitDefEqProofs only [go_sem]
 rw [if_neg hc];have e0:((kg d.m x).2 != 0)=true:=bne_iff_ne.2 hc;generalize kg d.m x=K at*;refine Fn.av 164 [.tmp 6,.tmp 7] func80 (hv:= ?_);simp -dsimp -implicitDefEqProofs only [go_sem,w1,w2,w3,w4,w5,w6,uq7,uq8];((with_reducible and_intros);all_goals try (omega));refine ak.draw mixed rfl ?_;simp -dsimp -implicitDefEqProofs only [go_sem];((with_reducible and_intros);all_goals try (omega));refine aI hr (by simp [ay,ao,au,aH]) ?_;simp -dsimp -implicitDefEqProofs only [go_sem,e0];(all_goals try (exact rfl))
theorem DB (d:Dk) (hk:la d=true):Fn pG 80 [lz d,nC [eu],aM []] true (· = .aZ [eS (ca [45] d .pa).1,eI (ca [45] d .pa).2]):=by
 obtain ⟨hF,ha1,ha2,hk1,hk2⟩:=dkA hk;have hq:Fn pG 106 [jR d.m d.a,aR d.k,eI 1] false (· = .aZ [aR (yZ d.m d.a d.k),eI (if bm d.m d.a d.k=true then 0 else 1)]):=Fn.vK (Fn.mono (QF d.m d.a d.k ha1 ha2 hk1 hk2) fun x hx=>⟨_,hx,rfl⟩);have hw:=fun g=>GS (m:=d.m) (t:=d.a) (ae:=d.k) (g:=g);have hkt:=fun g hg hx=>M3 g hg hx;have w1:decide (eu=[102,97,108,115,101])=false:=by decide
 have w2:decide (eu=[103,104,111,115,116,115])=false:=by decide
 have w3:decide (eu=[99,111,117,110,116])=false:=by decide
 have w4:decide (eu=[119,97,102,101,114,115])=false:=by decide
 have w5:decide (eu=[108,111,99,107])=false:=by decide
 have w6:decide (eu=[111,112,101,110,115])=false:=by decide
 have w7:decide (eu=[119,111,114,115,116])=true:=by decide
 simp only [ca];generalize yZ d.m d.a d.k=L at*;rcases L with _|⟨g,L⟩
 . have e1:(((([]:lL).length:Nat):Int)==0)=true:=rfl;generalize (if bm d.m d.a d.k=true then (0:Int) else 1)=c at*;refine Fn.av 164 [.tmp 6,.tmp 7] func80 (hv:= ?_);simp -dsimp -implicitDefEqProofs only [go_sem,w1,w2,w3,w4,w5,w6,w7,uq7,uq8];((with_reducible and_intros);all_goals try (omega));refine ax hq (by simp [ay,ao,au,aH]) ?_;simp -dsimp -implicitDefEqProofs only [go_sem,uq8,uq5]
 obtain ⟨g1,g2,g3⟩:=hw g (by simp);have gk:=gw (m:=d.m) (c:=g) (beq_iff_eq.2 g3);have gl:g.length<=1048576:=by have:=gk.1;have:=hF.num;omega
 have hkg:=hkt g gl fun y hy=>by have:=gk.2 y hy;have:=hF.num;omega
 generalize (if bm d.m d.a d.k=true then (0:Int) else 1)=c at*;have e1:((((L.length+1:Nat):Nat):Int)==0)=false:=by rw [beq_eq_false_iff_ne];omega
 clear hw hkt;refine Fn.av 164 [.tmp 6,.tmp 7] func80 (hv:= ?_);simp -dsimp -implicitDefEqProofs only [go_sem,w1,w2,w3,w4,w5,w6,w7,uq7,uq8];((with_reducible and_intros);all_goals try (omega));refine ax hq (by simp [ay,ao,au,aH]) ?_;simp -dsimp -implicitDefEqProofs only [go_sem,e1,uq7,uq3];((with_reducible and_intros);all_goals try (omega));refine ab hkg ?_;simp -dsimp -implicitDefEqProofs only [go_sem]
theorem DC (d:Dk) (hk:la d=true) (x y:lU) (n s:Nat) (hn:n<=9999999999999/\s<=9999999999999):Fn pG 80 [lz d,nC [dZ,x,y],aM [n,s]] true (· = .aZ [eS (ca [45] d (.pc n s)).1,eI (ca [45] d (.pc n s)).2]):=by
 obtain ⟨hF,ha1,ha2,hk1,hk2⟩:=dkA hk;have w1:decide (dZ=[102,97,108,115,101])=false:=by decide
 have w2:decide (dZ=[103,104,111,115,116,115])=false:=by decide
 have w3:decide (dZ=[99,111,117,110,116])=false:=by decide
 have w4:decide (dZ=[119,97,102,101,114,115])=false:=by decide
 have w5:decide (dZ=[108,111,99,107])=false:=by decide
 have w6:decide (dZ=[111,112,101,110,115])=false:=by decide
 have w7:decide (dZ=[119,111,114,115,116])=false:=by decide
 simp only [ca];by_cases hl:n<d.k.length
 . rw [if_pos hl];have gn:=get_some hl;have ek:d.k.getD n []=d.k[n]:=by rw [List.getD_eq_getElem?_getD,gn];rfl
   rw [ek];have hq:=I9 d.m d.k[n] 0 (s:Int) (hk2 _ (List.getElem_mem hl));have dl:decide ((n:Int)≥(d.k.length:Int))=false:=dF (by omega);generalize j7 d.m d.k[n] 0 (s:Int)=T at*;generalize d.k[n]=K at*;refine Fn.av 164 [.tmp 6,.tmp 7] func80 (hv:= ?_);simp -dsimp -implicitDefEqProofs only [go_sem,w1,w2,w3,w4,w5,w6,w7,uq7,uq8];((with_reducible and_intros);all_goals try (omega));refine ak.draw mixed rfl ?_;simp -dsimp -implicitDefEqProofs only [go_sem];((with_reducible and_intros);all_goals try first|omega|exact rfl);all_goals try simp -dsimp -implicitDefEqProofs only [go_sem,dl]
   refine ak.draw mixed rfl ?_;simp -dsimp -implicitDefEqProofs only [go_sem,gn];((with_reducible and_intros);all_goals try (omega));refine an hq ?_;simp -dsimp -implicitDefEqProofs only [go_sem];all_goals (first|exact rfl|skip)
 rw [if_neg hl];have dl:decide ((n:Int)≥(d.k.length:Int))=true:=dT (by omega);refine Fn.av 164 [.tmp 6,.tmp 7] func80 (hv:= ?_);simp -dsimp -implicitDefEqProofs only [go_sem,w1,w2,w3,w4,w5,w6,w7,uq7,uq8];((with_reducible and_intros);all_goals try (omega));refine ak.draw mixed rfl ?_;simp -dsimp -implicitDefEqProofs only [go_sem];((with_reducible and_intros);all_goals try first|omega|exact rfl);all_goals try simp -dsimp -implicitDefEqProofs only [go_sem,dl]
theorem Tz (m:aL) (x:lU):(kg m x).1.length<=x.length:=by
 unfold kg;split
 . split
   . rw [dc];exact Nat.le_refl _
   simp
 simp
theorem QU (d:Dk) (hk:la d=true) (x y:lU) (hx:x.length<=1000000) (hy:y.length<=1000000):Fn pG 94 [lz d,eS x,eS y] false (· = .aZ [lz (vN d x y).1,eI (vN d x y).2]):=by
 refine Fn.cg 52 [.cell 6 26,.tmp 7] func94 (hv:= ?_);obtain ⟨hF,ha1,ha2,hk1,hk2⟩:=dkA hk;have hr:=Fn.shared (yP d.m x (by omega));have hrl:=Tz d.m x;unfold vN;by_cases hc:(kg d.m x).2=0
 . have e0:((0:Int) != 0)=false:=rfl;have hrd:=Fn.shared (B4 y (by omega));rw [if_pos hc];rw [hc] at hr;generalize (kg d.m x).1=K at*;rcases hdg:y.all dQ with _|_
   . rw [hdg] at hrd;simp -dsimp -implicitDefEqProofs only [go_sem];refine ax hr (by simp [ay,ao,au,aH]) ?_;simp -dsimp -implicitDefEqProofs only [go_sem,e0];refine ax hrd (by simp [ay,ao,aH]) ?_;simp -dsimp -implicitDefEqProofs only [go_sem]
   rw [hdg,if_pos rfl] at hrd;rw [if_pos rfl];have hcl:=dc y;generalize bA y=R at*;have hl1:=vw d.a (by have:=hF.al;omega) ha2;have hl2:=vw d.k (by have:=hF.al;have:=hF.kl;omega) hk2
   have hd:=MD d.m (d.a++[R]) (d.k++[K]) (by have:=hF.al;simp;omega) (fun z hz=>by
    rcases List.mem_append.1 hz with hz|hz
    . exact ha2 z hz
    . rw [uq9] at hz;subst hz;omega) (by have:=hF.al;have:=hF.kl;simp;omega) (fun z hz=>by
    rcases List.mem_append.1 hz with hz|hz
    . exact hk2 z hz
    rw [uq9] at hz;subst hz;omega)
   simp only [Xv,aR,List.map_append,uq7,uq8] at hd;have hal:=hF.al;have hkl:=hF.kl;have t1:(d.a.map aM).take d.a.length=d.a.map aM:=bW (by simp);have t2:(d.k.map aM).take d.k.length=d.k.map aM:=bW (by simp);have t3:(d.a.map aM++[aM R]).take (d.a.length+1)=d.a.map aM++[aM R]:=bW (by simp);have t4:(d.k.map aM++[aM K]).take (d.k.length+1)=d.k.map aM++[aM K]:=bW (by simp);have m1:(d.a++[R]).map aM=d.a.map aM++[aM R]:=by simp
   have m2:(d.k++[K]).map aM=d.k.map aM++[aM K]:=by simp
   rcases hdk:gR d.m (d.a++[R]) (d.k++[K]) with _|_
   . rw [hdk] at hd;rw [if_neg (by simp)];simp -dsimp -implicitDefEqProofs only [go_sem];refine ax hr (by simp [ay,ao,au,aH]) ?_;simp -dsimp -implicitDefEqProofs only [go_sem,e0];refine ax hrd (by simp [ay,ao,aH]) ?_;simp -dsimp -implicitDefEqProofs only [go_sem];refine ak.draw mixed rfl ?_;simp -dsimp -implicitDefEqProofs only [go_sem];refine kR hl1 (by decide) rfl (by decide) ?_;simp -dsimp -implicitDefEqProofs only [go_sem,t1];refine .inr ⟨by omega,?_⟩;refine kR hl2 (by decide) rfl (by decide) ?_;simp -dsimp -implicitDefEqProofs only [go_sem,t2];refine .inr ⟨by omega,?_⟩;simp -dsimp -implicitDefEqProofs only [go_sem,t3,t4];((with_reducible and_intros);all_goals try (exact rfl));refine ab hd ?_;simp -dsimp -implicitDefEqProofs only [go_sem]
   rw [hdk] at hd;rw [if_pos rfl];simp -dsimp -implicitDefEqProofs only [go_sem];refine ax hr (by simp [ay,ao,au,aH]) ?_;simp -dsimp -implicitDefEqProofs only [go_sem,e0];refine ax hrd (by simp [ay,ao,aH]) ?_;simp -dsimp -implicitDefEqProofs only [go_sem];refine ak.draw mixed rfl ?_;simp -dsimp -implicitDefEqProofs only [go_sem];refine kR hl1 (by decide) rfl (by decide) ?_;simp -dsimp -implicitDefEqProofs only [go_sem,t1];refine .inr ⟨by omega,?_⟩;refine kR hl2 (by decide) rfl (by decide) ?_;simp -dsimp -implicitDefEqProofs only [go_sem,t2];refine .inr ⟨by omega,?_⟩;simp -dsimp -implicitDefEqProofs only [go_sem,t3,t4];((with_reducible and_intros);all_goals try (exact rfl));refine ab hd ?_;simp -dsimp -implicitDefEqProofs only [go_sem,t3,t4];all_goals first|(simp;done)|skip
 rw [if_neg hc];have e0:((kg d.m x).2 != 0)=true:=bne_iff_ne.2 hc;generalize kg d.m x=K at*;simp -dsimp -implicitDefEqProofs only [go_sem];refine ax hr (by simp [ay,ao,au,aH]) ?_;simp -dsimp -implicitDefEqProofs only [go_sem,e0]
theorem DD (d:Dk) (hk:la d=true) (x1 x2 x3 x4 x5:lU) (n1 n2 n3 n4 n5:Nat):Fn pG 79 [lz d,nC [gU,x1,x2,x3,x4,x5],aM [n1,n2,n3,n4,n5]] false (· = .aZ [lz (dU d (.lf ⟨n1,n2,n3,n4,n5⟩)).1,eI (dU d (.lf ⟨n1,n2,n3,n4,n5⟩)).2]):=by
 refine Fn.vK (Fn.mono (post:=fun x=>sS x (.aZ [lz (dU d (.lf ⟨n1,n2,n3,n4,n5⟩)).1,eI (dU d (.lf ⟨n1,n2,n3,n4,n5⟩)).2])) (Fn.cg 102 [.cell 6 26,.tmp 7] func79 (hv:= ?_)) fun x hx=>⟨_,hx,rfl⟩);have hm:=fE ⟨n1,n2,n3,n4,n5⟩;have w1:decide (gU=[109,97,107,101,114])=true:=by decide
 simp only [dU];rcases ky:a6 ⟨n1,n2,n3,n4,n5⟩ with _|_
 . rw [ky] at hm;rw [if_neg (by simp)];simp -dsimp -implicitDefEqProofs only [go_sem,w1,uq7,uq8];((with_reducible and_intros);all_goals try (omega));refine ak.draw mixed rfl ?_;simp -dsimp -implicitDefEqProofs only [go_sem];((with_reducible and_intros);all_goals try first|omega|exact rfl);refine ab hm ?_;simp -dsimp -implicitDefEqProofs only [go_sem]
 rw [ky] at hm;rw [if_pos rfl];simp -dsimp -implicitDefEqProofs only [go_sem,w1,uq7,uq8];((with_reducible and_intros);all_goals try (omega));refine ak.draw mixed rfl ?_;simp -dsimp -implicitDefEqProofs only [go_sem];((with_reducible and_intros);all_goals try first|omega|exact rfl);refine ab hm ?_;simp -dsimp -implicitDefEqProofs only [go_sem]
theorem Jq (d:Dk) (hk:la d=true) (x y:lU) (hx:x.length<=1000000) (hy:y.length<=1000000):Fn pG 79 [lz d,nC [k9,x,y],aM []] false (· = .aZ [lz (dU d (.key x y)).1,eI (dU d (.key x y)).2]):=by
 refine Fn.cg 102 [.cell 6 26,.tmp 7] func79 (hv:= ?_);have hq:=QU d hk x y hx hy;have w1:decide (k9=[109,97,107,101,114])=false:=by decide
 have w2:decide (k9=[107,101,121])=true:=by decide
 simp only [dU];generalize vN d x y=q at*;simp -dsimp -implicitDefEqProofs only [go_sem,w1,w2,uq7,uq8];((with_reducible and_intros);all_goals try (omega));refine ak.draw mixed rfl ?_;simp -dsimp -implicitDefEqProofs only [go_sem];((with_reducible and_intros);all_goals try (omega));refine aI hq (by simp [ay,ao,au,aH]) ?_;simp -dsimp -implicitDefEqProofs only [go_sem];(all_goals try (exact rfl))
theorem GZ (d:Dk) (hk:la d=true) (x:lU) (n:Nat) (hn:n<=9999999999999):Fn pG 79 [lz d,nC [iH,x],aM [n]] false (· = .aZ [lz (dU d (.drop n)).1,eI (dU d (.drop n)).2]):=by
 refine Fn.cg 102 [.cell 6 26,.tmp 7] func79 (hv:= ?_);obtain ⟨hF,ha1,ha2,hk1,hk2⟩:=dkA hk;have hi:=jF (n:Int) 0 ((d.k.length:Int)-1);have hal:=hF.al;have hkl:=hF.kl;have e1:=sN d.a n (by omega) ha2;have e2:=sN d.k n (by omega) hk2;have w1:decide (iH=[109,97,107,101,114])=false:=by decide
 have w2:decide (iH=[107,101,121])=false:=by decide
 have w3:decide (iH=[100,114,111,112])=true:=by decide
 simp only [dU];by_cases hl:n<d.k.length
 . rw [show bF (n:Int) 0 ((d.k.length:Int)-1)=true by simp only [bF,uq0,decide_eq_true_eq];omega] at hi;rw [if_pos hl];simp -dsimp -implicitDefEqProofs only [go_sem,w1,w2,w3,uq7,uq8];((with_reducible and_intros);all_goals try (omega));refine ak.draw mixed rfl ?_;simp -dsimp -implicitDefEqProofs only [go_sem];((with_reducible and_intros);all_goals try first|omega|(refine ⟨?_,?_⟩<;>omega));refine an hi ?_;simp -dsimp -implicitDefEqProofs only [go_sem];((with_reducible and_intros);all_goals try (exact rfl));refine ak.draw mixed rfl ?_;simp -dsimp -implicitDefEqProofs only [go_sem];((with_reducible and_intros);all_goals try (omega));refine aI e1 (by simp [ay,ao,aH]) ?_;simp -dsimp -implicitDefEqProofs only [go_sem];((with_reducible and_intros);all_goals try (omega));refine aI e2 (by simp [ay,ao,aH]) ?_;simp -dsimp -implicitDefEqProofs only [go_sem];(all_goals try (exact rfl))
 rw [show bF (n:Int) 0 ((d.k.length:Int)-1)=false by rw [Bool.eq_false_iff];simp only [bF,ne_eq,uq0,decide_eq_true_eq];omega] at hi;rw [if_neg hl];simp -dsimp -implicitDefEqProofs only [go_sem,w1,w2,w3,uq7,uq8];((with_reducible and_intros);all_goals try (omega));refine ak.draw mixed rfl ?_;simp -dsimp -implicitDefEqProofs only [go_sem];((with_reducible and_intros);all_goals try first|omega|(refine ⟨?_,?_⟩<;>omega));refine an hi ?_;simp -dsimp -implicitDefEqProofs only [go_sem];(all_goals try (exact rfl))
theorem G0 (d:Dk) (hk:la d=true) (x:lU) (n:Nat) (hn:n<=9999999999999):Fn pG 79 [lz d,nC [gY,x],aM [n]] false (· = .aZ [lz (dU d (.find n)).1,eI (dU d (.find n)).2]):=by
 refine Fn.cg 102 [.cell 6 26,.tmp 7] func79 (hv:= ?_);obtain ⟨hF,ha1,ha2,hk1,hk2⟩:=dkA hk;have hal:=hF.al;have hq:=QR d.m d.a n ha1 ha2;have hl:=nO d.a (by omega) ha2;have w1:decide (gY=[109,97,107,101,114])=false:=by decide
 have w2:decide (gY=[107,101,121])=false:=by decide
 have w3:decide (gY=[100,114,111,112])=false:=by decide
 simp only [dU];generalize gO d.m d.a n=q at*;by_cases hc:q.2.2=0
 . rw [if_pos hc];rw [hc] at hq;have e0:((0:Int) != 0)=false:=rfl;simp -dsimp -implicitDefEqProofs only [go_sem,w1,w2,w3,uq7,uq8];((with_reducible and_intros);all_goals try (omega));refine ak.draw mixed rfl ?_;simp -dsimp -implicitDefEqProofs only [go_sem];((with_reducible and_intros);all_goals try (omega));refine aI hq (by simp [ay,ao,au,aH]) ?_;simp -dsimp -implicitDefEqProofs only [go_sem,e0];((with_reducible and_intros);all_goals try (exact rfl));refine ak.draw mixed rfl ?_;simp -dsimp -implicitDefEqProofs only [go_sem];refine aI hl (by simp [ay,ao,aH]) ?_;simp -dsimp -implicitDefEqProofs only [go_sem];(all_goals try (exact rfl))
 rw [if_neg hc];have e0:(q.2.2 != 0)=true:=bne_iff_ne.2 hc;simp -dsimp -implicitDefEqProofs only [go_sem,w1,w2,w3,uq7,uq8];((with_reducible and_intros);all_goals try (omega));refine ak.draw mixed rfl ?_;simp -dsimp -implicitDefEqProofs only [go_sem];((with_reducible and_intros);all_goals try (omega));refine aI hq (by simp [ay,ao,au,aH]) ?_;simp -dsimp -implicitDefEqProofs only [go_sem,e0];(all_goals try (exact rfl))
theorem G1 (d:Dk) (hk:la d=true) {ws:List lU} {ns:lI} {c:Dw} (h:mU ws ns c) (hc:y7 c=true) (hl:∀w∈ws,w.length<=1000000):Fn pG 79 [lz d,nC ws,aM ns] false (· = .aZ [lz (dU d c).1,eI (dU d c).2]):=by
 cases h with
 |lf=>exact DD d hk ..
 |key x y=>exact Jq d hk x y (hl x (by simp)) (hl y (by simp))
 |drop x n hn=>exact GZ d hk x n hn
 |find x n hn=>exact G0 d hk x n hn
 |_=>cases hc
theorem QV (d:Dk) (hk:la d=true) {ws:List lU} {ns:lI} {c:Dw} (h:mU ws ns c) (hc:y7 c=false) (hl:∀w∈ws,w.length<=1000000):Fn pG 80 [lz d,nC ws,aM ns] true (· = .aZ [eS (ca [45] d c).1,eI (ca [45] d c).2]):=by
 cases h with
 |NH=>exact Jp d hk
 |cq=>exact zK d hk
 |count=>exact Dz d hk
 |ka=>exact zL d hk
 |pa=>exact DB d hk
 |lock x n hn=>exact GY d hk x n hn
 |opens x=>exact DA d hk x (by have:=hl x (by simp);omega)
 |pc x y n s hn=>exact DC d hk x y n s hn
 |_=>cases hc
theorem G2 (m:aL) (x:lU):0<=(kg m x).2/\(kg m x).2<=6:=by
 unfold kg;split
 . split<;>simp
 simp
theorem Jr (m:aL) (t:lL) (lim:Nat):0<=(gO m t lim).2.2/\(gO m t lim).2.2<=6:=by unfold gO k7;generalize dP m t lim t.length [] ⟨0,false,[]⟩=F;obtain ⟨b,tr,st,fd⟩:=F;rcases eV m t with _|_<;>rcases bF (lim:Int) 0 4000 with _|_<;>rcases fd with _|⟨f,r⟩<;>cases st<;>simp
theorem G3 (m:aL) (key:lI) (se sec:Int):0<=(j7 m key se sec).2/\(j7 m key se sec).2<=6:=by
 have hc:0<=lX m se sec/\lX m se sec<=6:=by
  unfold lX;split
  . split<;>simp
  simp
 unfold j7;split
 . split<;>simp
 exact hc
theorem Co (d:Dk) (c:Dw):0<=(dU d c).2/\(dU d c).2<=6:=by
 cases c<;>simp only [dU]
 . split<;>simp
 . unfold vN;split
   . split
     . split<;>simp
     simp
   exact G2 d.m _
 . split<;>simp
 . split
   . simp
   exact Jr ..
 all_goals simp
theorem ze (e:lU) (d:Dk) (c:Dw):0<=(ca e d c).2/\(ca e d c).2<=6:=by
 have hcc:0<=bY d.m d.a d.k/\bY d.m d.a d.k<=6:=by
  unfold bY;split
  . split<;>simp
  simp
 have h01:∀b:Bool,0<=(if b=true then (0:Int) else 1)/\(if b=true then (0:Int) else 1)<=6:=fun b=>by cases b<;>simp
 cases c<;>simp only [ca]
 case NH=>exact hcc
 case cq=>exact h01 _
 case pa=>exact h01 _
 case count=>exact h01 _
 case ka=>exact h01 _
 case lock n=>
  split
  . split<;>simp
  exact hcc
 case opens x=>
  split
  . split
    . simp
    unfold B8;split
    . split<;>simp
    simp
  exact G2 d.m x
 case pc n s=>
  split
  . exact G3 ..
  simp
 all_goals simp
theorem mU.head {ws:List lU} {ns:lI} {c:Dw} (h:mU ws ns c):∃w,ws[0]? =some w/\((y7 c=true/\(w=gU\/w=k9\/w=iH\/w=gY))\/(y7 c=false/\w≠gU/\w≠k9/\w≠iH/\w≠gY)):=by
 cases h
 case lf=>exact ⟨_,rfl,.inl ⟨rfl,.inl rfl⟩⟩
 case key=>exact ⟨_,rfl,.inl ⟨rfl,.inr (.inl rfl)⟩⟩
 case drop=>exact ⟨_,rfl,.inl ⟨rfl,.inr (.inr (.inl rfl))⟩⟩
 case find=>exact ⟨_,rfl,.inl ⟨rfl,.inr (.inr (.inr rfl))⟩⟩
 all_goals exact ⟨_,rfl,.inr ⟨rfl,by decide,by decide,by decide,by decide⟩⟩
theorem vx {s:lU}:∀w∈(ft s).1,w.length<=s.length:=by
 have h:=iY 32 s;unfold ft;split
 . simp
 split
 . exact h
 split
 . exact h
 simp
theorem nS {w:lU} (h:w=gU\/w=k9\/w=iH\/w=gY):
 decide (w=[109,97,107,101,114])=true\/(decide (w=[109,97,107,101,114])=false/\decide (w=[107,101,121])=true)\/(decide (w=[109,97,107,101,114])=false/\decide (w=[107,101,121])=false/\decide (w=[100,114,111,112])=true)∨
  (decide (w=[109,97,107,101,114])=false/\decide (w=[107,101,121])=false/\decide (w=[100,114,111,112])=false/\decide (w=[102,105,110,100])=true):=by
 rcases h with rfl|rfl|rfl|rfl<;>decide
theorem QW (d:Dk) (hk:la d=true) (l:lU) (hl:l.length<=1000000):Fn pG 55 [lz d,eS l] false (· = .aZ [lz (om d l).1,eS (om d l).2]):=by
 refine Fn.cg 54 [.cell 4 26,.tmp 5] func55 (hv:= ?_);have hp:=Fn.shared (I2 l (by omega));have hw:=vx (s:=l);rcases hb:(ft l).2.2 with _|_
 . have hR:om d l=(d,za 6):=by unfold om;rw [y9 hb]
   rw [hR];have hi6:=cU (v:=6) (by unfold kx;omega);rw [hb] at hp;have h6:=fm 6 (by omega);generalize ft l=p at*;simp only [za];simp -dsimp -implicitDefEqProofs only [go_sem];refine ax hp (by simp [ay,ao,aH]) ?_;simp -dsimp -implicitDefEqProofs only [go_sem];refine ak.draw mixed rfl ?_;simp -dsimp -implicitDefEqProofs only [go_sem];refine an h6 ?_;simp -dsimp -implicitDefEqProofs only [go_sem];((with_reducible and_intros);all_goals try first|omega|exact rfl)
 obtain ⟨c,hco,hcm⟩:=y8 hb;have hR:om d l=Wa d c:=by unfold om;rw [hco]
 rw [hR];rw [hb] at hp;have DO:=fun h=>G1 d hk hcm h fun w hm=>by have:=hw w hm;omega
 have zQ:=fun h=>QV d hk hcm h fun w hm=>by have:=hw w hm;omega
 obtain ⟨w0,g0,hhd⟩:=hcm.head;have hcc:=Co d c;have hca:=ze [] d c;have ht:=No [45] [] d c;rw [Nn [45] [] d c] at zQ ht;have hlen:0<(ft l).1.length:=(List.getElem?_eq_some_iff.1 g0).1;clear hcm hco hR;generalize ft l=p at*;obtain ⟨ws,ns,b⟩:=p;simp only at hp DO zQ g0 hb hlen;subst hb;clear hw;unfold Wa;rcases hhd with ⟨hch,hwd⟩|⟨hch,n1,n2,n3,n4⟩
 . have hq:=DO hch;rw [if_pos hch];clear DO zQ ht hca;generalize dU d c=q at*;by_cases hc:q.2=0
   . rw [if_pos hc];rw [hc] at hq;have e0:((0:Int) != 0)=false:=rfl;rcases nS hwd with w1|⟨w1,w2⟩|⟨w1,w2,w3⟩|⟨w1,w2,w3,w4⟩
     all_goals (
      simp -dsimp -implicitDefEqProofs only [go_sem];refine ax hp (by simp [ay,ao,aH]) ?_;simp -dsimp -implicitDefEqProofs only [go_sem, *];((with_reducible and_intros);all_goals try (omega));refine ax hq (by simp [ay,ao,au,aH]) ?_
      simp -dsimp -implicitDefEqProofs only [go_sem, *])
   rw [if_neg hc];have e0:(q.2 != 0)=true:=bne_iff_ne.2 hc;have hd:=fm q.2 (by omega);have hi6:=cU (v:=q.2) (by unfold kx;omega);simp only [za];rcases nS hwd with w1|⟨w1,w2⟩|⟨w1,w2,w3⟩|⟨w1,w2,w3,w4⟩
   all_goals (
    simp -dsimp -implicitDefEqProofs only [go_sem];refine ax hp (by simp [ay,ao,aH]) ?_;simp -dsimp -implicitDefEqProofs only [go_sem, *];((with_reducible and_intros);all_goals try (omega));refine ax hq (by simp [ay,ao,au,aH]) ?_;simp -dsimp -implicitDefEqProofs only [go_sem, *];refine ak.draw mixed rfl ?_;simp -dsimp -implicitDefEqProofs only [go_sem];refine an hd ?_;simp -dsimp -implicitDefEqProofs only [go_sem]
    ((with_reducible and_intros);all_goals try first|omega|exact rfl))
 have hq:=zQ hch;rw [if_neg (by rw [hch];simp)];have w1:decide (w0=[109,97,107,101,114])=false:=dF n1;have w2:decide (w0=[107,101,121])=false:=dF n2;have w3:decide (w0=[100,114,111,112])=false:=dF n3;have w4:decide (w0=[102,105,110,100])=false:=dF n4;clear DO zQ hcc n1 n2 n3 n4;generalize ca [45] d c=q at*;generalize ca [] d c=q' at*;by_cases hc:q'.2=0
 . rw [if_pos hc];rw [ht hc] at hq;rw [hc] at hq;have e0:((0:Int) != 0)=false:=rfl;simp -dsimp -implicitDefEqProofs only [go_sem];refine ax hp (by simp [ay,ao,aH]) ?_;simp -dsimp -implicitDefEqProofs only [go_sem,g0,w1,w2,w3,w4];((with_reducible and_intros);all_goals try (omega));refine ab hq ?_;simp -dsimp -implicitDefEqProofs only [go_sem,e0]
 rw [if_neg hc];have e0:(q'.2 != 0)=true:=bne_iff_ne.2 hc;have hd:=fm q'.2 (by omega);have hi6:=cU (v:=q'.2) (by unfold kx;omega);simp only [za];simp -dsimp -implicitDefEqProofs only [go_sem];refine ax hp (by simp [ay,ao,aH]) ?_;simp -dsimp -implicitDefEqProofs only [go_sem,g0,w1,w2,w3,w4];((with_reducible and_intros);all_goals try (omega));refine ab hq ?_;simp -dsimp -implicitDefEqProofs only [go_sem,e0];refine ak.draw mixed rfl ?_;simp -dsimp -implicitDefEqProofs only [go_sem];refine an hd ?_;simp -dsimp -implicitDefEqProofs only [go_sem];((with_reducible and_intros);all_goals try first|omega|exact rfl)
noncomputable def lh (s:lU):Dk × Int:=if (decide (s.length<=3000)&&decide ((dw s).length<=50))=true then ((eK (dw s)).1,0) else (⟨⟨0,0,0,0,0⟩,[],[]⟩,3)
noncomputable def pe (s:lU):List lU × Int:=if (decide (s.length<=3000)&&decide ((dw s).length<=50))=true then ((eK (dw s)).2,0) else ([],3)
theorem KB (ls:List lU):la (eK ls).1=true:=by
 have:=zd ls ls.length
 rwa [dD] at this
theorem Js:Fn pG 40 [] false (· =lz Rv):=by refine Fn.vK (Fn.mono (post:=fun x=>sS x (lz Rv)) (Fn.cg 3 [.cell 0 26] func40 (hv:= ?_)) fun x hx=>⟨_,hx,rfl⟩);unfold Rv;simp -dsimp -implicitDefEqProofs only [go_sem]
theorem G4 (ls:List lU) (h:ls.length<=1000000) (hl:∀l∈ls,l.length<=1000000):Fn pG 29 [nC ls] false (· = .aZ [lz (eK ls).1,nC (eK ls).2]):=by
 refine Fn.cg 33 [.cell 2 26,.tmp 3] func29 (hv:= ?_);have h0:=Js;have hln:∀i,i<=ls.length->(eK (ls.take i)).2.length=i:=fun i hi=>by rw [Dx];simp;omega
 simp -dsimp -implicitDefEqProofs only [go_sem];refine ax h0 (by exact True.intro) ?_;simp -dsimp -implicitDefEqProofs only [go_sem]
 refine ak.up [0,2,4] [7,13,23,29,30] [10,4] ls.length (fun _=>True) (fun i=>[(6,eI i),(5,.ref 10 0 0 i)])
  (fun i=>[(10,.row 0 ⟨1,false⟩ true ((eK (ls.take i)).2.map eS)),(4,.box 0 [eI (eK (ls.take i)).1.m.ah,eI (eK (ls.take i)).1.m.aq,eI (eK (ls.take i)).1.m.step,eI (eK (ls.take i)).1.m.same,eI (eK (ls.take i)).1.m.least,aR (eK (ls.take i)).1.a,aR (eK (ls.take i)).1.k])]) trivial ?_ rfl (fun i hi _=> ?_) (fun _=> ?_)
 . rw [bQ,zc];unfold Rv;simp -dsimp -implicitDefEqProofs only [go_sem]
 . have gi:=get_some hi;have li:=aG hi;have cO:=QW (eK (ls.take i)).1 (zd ls i) ls[i] (hl _ (List.getElem_mem hi));have hs:=tY hi;unfold zb at hs;have hl1:=hln i (by omega);rw [hs];clear hs hln;generalize eK (ls.take i)=p at*;generalize ls[i]=l at*;generalize om p.1 l=r at*;have tP:(p.2.map eS).take i=p.2.map eS:=bW (by simp;omega);have eM:(p.2++[r.2]).map eS=p.2.map eS++[eS r.2]:=by simp
   rw [eM];simp -dsimp -implicitDefEqProofs only [pz,bk,bR,bB,↓reduceIte,cK];simp -dsimp -implicitDefEqProofs only [go_sem,li];refine ak.draw mixed rfl ?_;simp -dsimp -implicitDefEqProofs only [go_sem,gi];((with_reducible and_intros);all_goals try (omega));refine aI cO (by simp [ay,ao,au,aH]) ?_;simp -dsimp -implicitDefEqProofs only [go_sem];((with_reducible and_intros);all_goals try first|omega|(refine ⟨?_,?_⟩<;>omega)|exact rfl);all_goals try simp -dsimp -implicitDefEqProofs only [go_sem,tP]
 rw [dD];have hl1:=hln ls.length (Nat.le_refl _);rw [dD] at hl1;generalize eK ls=p at*;have tP:(p.2.map eS).take ls.length=p.2.map eS:=bW (by simp;omega);simp -dsimp -implicitDefEqProofs only [pz,bk,bR,bB,↓reduceIte,cK];simp -dsimp -implicitDefEqProofs only [go_sem,aC,tP];(all_goals try (omega))
theorem Rw (s:lU) (h:s.length<=1048576):Fn pG 15 [eS s] false (· = .aZ [nC (pe s).1,eI (pe s).2]):=by
 refine Fn.vK (Fn.mono (post:=fun x=>sS x (.aZ [nC (pe s).1,eI (pe s).2])) (Fn.cg 16 [.tmp 2,.tmp 3] func15 (hv:= ?_)) fun x hx=>⟨_,hx,rfl⟩);have hf:=B5 s h;have hll:=Fn.shared (qX s h);have hb:=qW s;have ha:=G4 (dw s);unfold pe;rcases mc:(decide (s.length<=3000)&&decide ((dw s).length<=50)) with _|_
 . rw [mc] at hf;rw [if_neg (by simp)];simp -dsimp -implicitDefEqProofs only [go_sem];refine ab hf ?_;simp -dsimp -implicitDefEqProofs only [go_sem]
 rw [mc] at hf;rw [if_pos rfl];simp only [uq0,decide_eq_true_eq] at mc;have ha:=ha (by omega) fun l hl=>by have:=hb.2 l hl;omega
 generalize dw s=ls at*;generalize eK ls=p at*;simp -dsimp -implicitDefEqProofs only [go_sem];refine ab hf ?_;simp -dsimp -implicitDefEqProofs only [go_sem];refine ax hll (by simp [ay,ao,aH]) ?_;simp -dsimp -implicitDefEqProofs only [go_sem];refine ax ha (by simp [ay,ao,aH]) ?_;simp -dsimp -implicitDefEqProofs only [go_sem]
theorem DE (s:lU) (h:s.length<=1048576):Fn pG 7 [eS s] false (· = .aZ [lz (lh s).1,eI (lh s).2]):=by
 refine Fn.vK (Fn.mono (post:=fun x=>sS x (.aZ [lz (lh s).1,eI (lh s).2])) (Fn.cg 25 [.cell 2 26,.tmp 3] func7 (hv:= ?_)) fun x hx=>⟨_,hx,rfl⟩);have hf:=B5 s h;have hll:=Fn.shared (qX s h);have hb:=qW s;have ha:=G4 (dw s);have hok:=KB (dw s);unfold lh;rcases mc:(decide (s.length<=3000)&&decide ((dw s).length<=50)) with _|_
 . rw [mc] at hf;rw [if_neg (by simp)];simp -dsimp -implicitDefEqProofs only [go_sem];refine ab hf ?_;simp -dsimp -implicitDefEqProofs only [go_sem]
 rw [mc] at hf;rw [if_pos rfl];simp only [uq0,decide_eq_true_eq] at mc;have ha:=ha (by omega) fun l hl=>by have:=hb.2 l hl;omega
 generalize dw s=ls at*;generalize eK ls=p at*;have hF:=XM hok;have h1:=nO p.1.a (by have:=hF.al;omega) fun x hx=>by have:=hF.ar x hx;omega
 have h2:=nO p.1.k (by have:=hF.al;have:=hF.kl;omega) fun x hx=>by have:=hF.kn x hx;omega
 simp -dsimp -implicitDefEqProofs only [go_sem];refine ab hf ?_;simp -dsimp -implicitDefEqProofs only [go_sem];refine ax hll (by simp [ay,ao,aH]) ?_;simp -dsimp -implicitDefEqProofs only [go_sem];refine ax ha (by simp [ay,ao,aH]) ?_;simp -dsimp -implicitDefEqProofs only [go_sem];refine ak.draw mixed rfl ?_;simp -dsimp -implicitDefEqProofs only [go_sem];refine aI h1 (by simp [ay,ao,aH]) ?_;simp -dsimp -implicitDefEqProofs only [go_sem];refine aI h2 (by simp [ay,ao,aH]) ?_;simp -dsimp -implicitDefEqProofs only [go_sem];(all_goals try (exact rfl))
theorem Ns (d:Dk) (c:Dw):(dU d c).2≠0->(dU d c).1=d:=by
 cases c<;>simp only [dU]
 . split
   . intro h;exact absurd rfl h
   intro _;rfl
 . unfold vN;split
   . split
     . split
       . intro h;exact absurd rfl h
       intro _;rfl
     intro _;rfl
   intro _;rfl
 . split
   . intro h;exact absurd rfl h
   intro _;rfl
 . split
   . intro h;exact absurd rfl h
   intro _;rfl
 all_goals (intro h;exact absurd rfl h)
theorem QX (d:Dk) (hk:la d=true) {ws:List lU} {ns:lI} {c:Dw} (h:mU ws ns c) (hc:y7 c=true) (hl:∀w∈ws,w.length<=1000000) (va vk:Nat):
 fN pG 84 (zH va vk d) [.ptr 1900000006 0 0 0,nC ws,aM ns] (fun r m'=>r=eI (dU d c).2/\m'=zH (va+1) (vk+1) (dU d c).1):=by
 cases h with
 |lf=>exact GX d hk ..
 |key x y=>exact Nr d hk x y (hl x (by simp)) (hl y (by simp)) va vk
 |drop x n hn=>exact Jn d hk x n hn va vk
 |find x n hn=>exact Jo d hk x n hn va vk
 |_=>cases hc
theorem XN (d:Dk) (hk:la d=true) {ws:List lU} {ns:lI} {c:Dw} (h:mU ws ns c) (hc:y7 c=false) (hl:∀w∈ws,w.length<=1000000):
 Fn pG 85 [.bu ⟨7,true⟩ [lz d] 0 0,nC ws,aM ns] true (· = .aZ [eS (ca [] d c).1,eI (ca [] d c).2]):=by
 cases h with
 |NH=>exact vZ d iZ .NH (by decide) (Jl d hk)
 |cq=>exact vZ d e6 .cq (by decide) (zI d hk)
 |count=>exact vZ d fS .count (by decide) (Dy d hk)
 |ka=>exact vZ d dr .ka (by decide) (zJ d hk)
 |pa=>exact GV d hk
 |lock x n hn=>exact Jm d hk x n hn
 |opens x=>exact GU d hk x (by have:=hl x (by simp);omega)
 |pc x y n s hn=>exact GW d hk x y n s hn
 |_=>cases hc
theorem Nt (d:Dk) (hk:la d=true) (l:lU) (hl:l.length<=1000000) (va vk:Nat):fN pG 60 (zH va vk d) [.ptr 1900000006 0 0 0,eS l] (fun r m'=>r=eS (om d l).2/\m'=zH (va+1) (vk+1) (om d l).1):=by
 refine fN.dk (fN.tq 45 [.tmp 4] func60 rfl rfl rfl rfl rfl (oT rfl) (by decide) ?_);have hp:=Fn.shared (I3 l (by omega));have hw:=vx (s:=l);rw [gV];have t1:(d.a.map aM).take d.a.length=d.a.map aM:=bW (by simp);have t2:(d.k.map aM).take d.k.length=d.k.map aM:=bW (by simp);rcases hb:(ft l).2.2 with _|_
 . have hR:om d l=(d,za 6):=by unfold om;rw [y9 hb]
   rw [hR];have hi6:=cU (v:=6) (by unfold kx;omega);rw [hb] at hp;have h6:=k8 (n:=6) (by unfold kx;omega);generalize ft l=p at*;simp only [za];simp -dsimp -implicitDefEqProofs only [go_sem,uq4];refine ax hp (by simp [ay,ao,aH]) ?_;simp -dsimp -implicitDefEqProofs only [go_sem];refine ab h6 ?_;simp -dsimp -implicitDefEqProofs only [go_sem];((with_reducible and_intros);all_goals try (omega));((refine pd (oa:=some 1900000500) (oc:=some 1900000501) rfl ?_ (ep.mk ?_ rfl) (ep.mk ?_ rfl) ?_ ?_ ?_ ⟨rfl,rfl,?_,?_⟩);all_goals first|exact rfl|(simp;done)|skip)
 obtain ⟨c,hco,hcm⟩:=y8 hb;have hR:om d l=Wa d c:=by unfold om;rw [hco]
 rw [hR];rw [hb] at hp;have DO:=fun h=>QX d hk hcm h (fun w hm=>by have:=hw w hm;omega) va vk;have zQ:=fun h=>XN d hk hcm h fun w hm=>by have:=hw w hm;omega
 obtain ⟨w0,g0,hhd⟩:=hcm.head;have hcc:=Co d c;have hca:=ze [] d c;have hlen:0<(ft l).1.length:=(List.getElem?_eq_some_iff.1 g0).1;clear hcm hco hR;generalize ft l=p at*;obtain ⟨ws,ns,b⟩:=p;simp only at hp DO zQ g0 hb hlen;subst hb;clear hw;unfold Wa;rcases hhd with ⟨hch,hwd⟩|⟨hch,n1,n2,n3,n4⟩
 . have hq:=DO hch;rw [if_pos hch];clear DO zQ hca;have hd':(dU d c).2≠0->(dU d c).1=d:=Ns d c;generalize dU d c=q at*;by_cases hc:q.2=0
   . rw [if_pos hc];rw [hc] at hq;have e0:((0:Int) != 0)=false:=rfl;rcases nS hwd with w1|⟨w1,w2⟩|⟨w1,w2,w3⟩|⟨w1,w2,w3,w4⟩
     all_goals (
      simp -dsimp -implicitDefEqProofs only [go_sem,uq4];refine ax hp (by simp [ay,ao,aH]) ?_;simp -dsimp -implicitDefEqProofs only [go_sem, *];((with_reducible and_intros);all_goals try (omega));refine c7 hq ⟨⟨?_,?_⟩,?_,?_⟩ ?_
      . simp -dsimp -implicitDefEqProofs only [go_sem,kT]
      . simp -dsimp -implicitDefEqProofs only [go_sem,gV,uq4];all_goals try (simp;done)
      . simp -dsimp -implicitDefEqProofs only [go_sem,gV,uq4]
      . simp -dsimp -implicitDefEqProofs only [go_sem,kT];all_goals try (simp;done)
      rintro r m' ⟨hr,hm'⟩;rw [hr,hm'];simp only [zH,gV];simp -dsimp -implicitDefEqProofs only [go_sem,uq4,e0]
      ((refine pd (oa:=some 1900000500) (oc:=some 1900000501) rfl ?_ (ep.mk ?_ rfl) (ep.mk ?_ rfl) ?_ ?_ ?_ ⟨rfl,rfl,?_,?_⟩);all_goals first|exact rfl|(simp;done)|skip))
   rw [if_neg hc];rw [hd' hc] at hq;have e0:(q.2 != 0)=true:=bne_iff_ne.2 hc;have hd:=k8 (n:=q.2) (by unfold kx;omega);have hi6:=cU (v:=q.2) (by unfold kx;omega);simp only [za];rcases nS hwd with w1|⟨w1,w2⟩|⟨w1,w2,w3⟩|⟨w1,w2,w3,w4⟩
   all_goals (
    simp -dsimp -implicitDefEqProofs only [go_sem,uq4];refine ax hp (by simp [ay,ao,aH]) ?_;simp -dsimp -implicitDefEqProofs only [go_sem, *];((with_reducible and_intros);all_goals try (omega));refine c7 hq ⟨⟨?_,?_⟩,?_,?_⟩ ?_
    . simp -dsimp -implicitDefEqProofs only [go_sem,kT]
    . simp -dsimp -implicitDefEqProofs only [go_sem,gV,uq4];all_goals try (simp;done)
    . simp -dsimp -implicitDefEqProofs only [go_sem,gV,uq4]
    . simp -dsimp -implicitDefEqProofs only [go_sem,kT];all_goals try (simp;done)
    rintro r m' ⟨hr,hm'⟩;rw [hr,hm'];simp only [zH,gV];simp -dsimp -implicitDefEqProofs only [go_sem,uq4,e0];refine ab hd ?_;simp -dsimp -implicitDefEqProofs only [go_sem];((with_reducible and_intros);all_goals try (omega))
    ((refine pd (oa:=some 1900000500) (oc:=some 1900000501) rfl ?_ (ep.mk ?_ rfl) (ep.mk ?_ rfl) ?_ ?_ ?_ ⟨rfl,rfl,?_,?_⟩);all_goals first|exact rfl|(simp;done)|skip))
 have hq:=zQ hch;rw [if_neg (by rw [hch];simp)];have w1:decide (w0=[109,97,107,101,114])=false:=dF n1;have w2:decide (w0=[107,101,121])=false:=dF n2;have w3:decide (w0=[100,114,111,112])=false:=dF n3;have w4:decide (w0=[102,105,110,100])=false:=dF n4;clear DO zQ hcc n1 n2 n3 n4;generalize ca [] d c=q' at*;by_cases hc:q'.2=0
 . rw [if_pos hc];rw [hc] at hq;have e0:((0:Int) != 0)=false:=rfl;simp -dsimp -implicitDefEqProofs only [go_sem,uq4];refine ax hp (by simp [ay,ao,aH]) ?_;simp -dsimp -implicitDefEqProofs only [go_sem,g0,w1,w2,w3,w4];((with_reducible and_intros);all_goals try (omega));refine ym (r:=.aZ [eS q'.1,eI 0]) (cells:=[eI d.m.ah,eI d.m.aq,eI d.m.step,eI d.m.same,eI d.m.least,aR d.a,aR d.k]) ?_ rfl ?_ ?_ ?_
   . exact hq
   . simp -dsimp -implicitDefEqProofs only [go_sem,t1,t2]
   . simp [au,ao]
   simp -dsimp -implicitDefEqProofs only [go_sem,e0];((refine pd (oa:=some 1900000500) (oc:=some 1900000501) rfl ?_ (ep.mk ?_ rfl) (ep.mk ?_ rfl) ?_ ?_ ?_ ⟨rfl,rfl,?_,?_⟩);all_goals first|exact rfl|(simp;done)|skip)
 rw [if_neg hc];have e0:(q'.2 != 0)=true:=bne_iff_ne.2 hc;have hd:=k8 (n:=q'.2) (by unfold kx;omega);have hi6:=cU (v:=q'.2) (by unfold kx;omega);simp only [za];simp -dsimp -implicitDefEqProofs only [go_sem,uq4];refine ax hp (by simp [ay,ao,aH]) ?_;simp -dsimp -implicitDefEqProofs only [go_sem,g0,w1,w2,w3,w4];((with_reducible and_intros);all_goals try (omega));refine ym (r:=.aZ [eS q'.1,eI q'.2]) (cells:=[eI d.m.ah,eI d.m.aq,eI d.m.step,eI d.m.same,eI d.m.least,aR d.a,aR d.k]) ?_ rfl ?_ ?_ ?_
 . exact hq
 . simp -dsimp -implicitDefEqProofs only [go_sem,t1,t2]
 . simp [au,ao]
 simp -dsimp -implicitDefEqProofs only [go_sem,e0];refine ab hd ?_;simp -dsimp -implicitDefEqProofs only [go_sem];((with_reducible and_intros);all_goals try (omega));((refine pd (oa:=some 1900000500) (oc:=some 1900000501) rfl ?_ (ep.mk ?_ rfl) (ep.mk ?_ rfl) ?_ ?_ ?_ ⟨rfl,rfl,?_,?_⟩);all_goals first|exact rfl|(simp;done)|skip)
theorem Nu (s:lU):(n7 s).length<=s.length:=by
 unfold n7;split
 . simp
 exact Nat.le_refl _
theorem XO (s:lU) (h:s.length<=1048576):Fn pG 32 [eS s] true (· = .aZ [lz (lh s).1,nC (pe s).1,eI (pe s).2]):=by
 refine Fn.av 41 [.cell 2 26,.tmp 3,.tmp 4] func32 (hv:= ?_);have ht:=Dm s h;have hsp:=Fn.shared (Kj (n7 s) 10 (by have:=Nu s;omega));have hls:=I7 s;have hb:=qW s;unfold lh pe;by_cases h0:s=[]
 . subst h0;rw [if_pos rfl] at hls;have e1:(decide (([]:lU).length<=3000)&&decide ((dw []).length<=50))=true:=by rw [←hls];rfl
   rw [if_pos e1,if_pos e1,←hls];clear e1 hls hb;have d0:decide (([]:lU)=[])=true:=rfl;have d1:decide ((0:Int)>3000)=false:=rfl;have d2:decide ((0:Int)>50)=false:=rfl;have et:n7 []=[]:=rfl;rw [et] at ht hsp;have en:eK []=(Rv,[]):=rfl;rw [en];simp -dsimp -implicitDefEqProofs only [go_sem];refine ab ht ?_;simp -dsimp -implicitDefEqProofs only [go_sem];refine ax hsp (by simp [ay,ao,aH]) ?_;simp -dsimp -implicitDefEqProofs only [go_sem,d1,d2,uq5];refine ak.up [2,6,27,28] [35,36,37] [26,6,500,501] 0 (fun _=>True) (fun _=>[(29,eI 0),(7,.ref 26 0 0 0)]) (fun _=>[(26,.row 0 ⟨1,false⟩ true []),(6,.box 0 [eI 4,eI 5,eI 3,eI 2,eI 2,.ref 500 0 0 0,.ref 501 0 0 0]),(500,.row 0 ⟨1,false⟩ true []),(501,.row 0 ⟨1,false⟩ true [])]) trivial ?_ rfl (fun i hi _=>absurd hi (Nat.not_lt_zero _)) (fun _=> ?_)
   . simp -dsimp -implicitDefEqProofs only [go_sem]
   have dz:decide ((0:Int)<0)=false:=rfl;unfold Rv;simp -dsimp -implicitDefEqProofs only [pz,bk,bR,bB,↓reduceIte,cK];simp -dsimp -implicitDefEqProofs only [go_sem,dz,List.take_nil];((with_reducible and_intros);all_goals try (exact rfl));all_goals (first|(simp;done)|skip)
 rw [if_neg h0] at hls;rw [hls] at hsp;have d0:decide (s=[])=false:=dF h0;have l0:¬s.length=0:=fun e=>h0 (List.eq_nil_of_length_eq_zero e);generalize hL:dw s=ls at*;rcases d1:decide ((s.length:Int)>3000) with _|_
 . have d1':=of_decide_eq_false d1;rcases d2:decide ((ls.length:Int)>50) with _|_
   . have d2':=of_decide_eq_false d2;have e1:(decide (s.length<=3000)&&decide (ls.length<=50))=true:=by simp only [uq0,decide_eq_true_eq];omega
     rw [if_pos e1,if_pos e1];simp -dsimp -implicitDefEqProofs only [go_sem];refine ab ht ?_;simp -dsimp -implicitDefEqProofs only [go_sem];refine ax hsp (by simp [ay,ao,aH]) ?_;simp -dsimp -implicitDefEqProofs only [go_sem,d0,d1,d2]
     refine ak.up [2,6,27,28] [35,36,37] [26,6,500,501] ls.length (fun _=>True) (fun i=>[(29,eI i),(7,.ref 26 0 0 i)])
      (fun i=>[(26,.row 0 ⟨1,false⟩ true ((eK (ls.take i)).2.map eS)),(6,.box 0 [eI (eK (ls.take i)).1.m.ah,eI (eK (ls.take i)).1.m.aq,eI (eK (ls.take i)).1.m.step,eI (eK (ls.take i)).1.m.same,eI (eK (ls.take i)).1.m.least,.ref 500 0 0 (eK (ls.take i)).1.a.length,.ref 501 0 0 (eK (ls.take i)).1.k.length]),
        (500,.row 0 ⟨1,false⟩ true ((eK (ls.take i)).1.a.map aM)),(501,.row 0 ⟨1,false⟩ true ((eK (ls.take i)).1.k.map aM))]) trivial ?_ rfl (fun i hi _=> ?_) (fun _=> ?_)
     . rw [bQ,zc];unfold Rv;simp -dsimp -implicitDefEqProofs only [go_sem,uq5,uq8]
     . have gi:=get_some hi;have li:=aG hi;have cO:=Nt (eK (ls.take i)).1 (zd ls i) ls[i] (by have:=hb.2 _ (List.getElem_mem hi);omega) 0 0;have hst:=tY hi;unfold zb at hst;have hl1:(eK (ls.take i)).2.length=i:=by rw [Dx];simp;omega
       rw [hst];clear hst;generalize eK (ls.take i)=p at*;generalize ls[i]=l at*;generalize om p.1 l=r at*;have tP:(p.2.map eS).take i=p.2.map eS:=bW (by simp;omega);have eM:(p.2++[r.2]).map eS=p.2.map eS++[eS r.2]:=by simp
       rw [eM];simp only [zH,gV] at cO;simp -dsimp -implicitDefEqProofs only [pz,bk,bR,bB,↓reduceIte,cK];simp -dsimp -implicitDefEqProofs only [go_sem,gi,li];((with_reducible and_intros);all_goals try (omega));refine jr 1900000000 cO ⟨?_,?_⟩ ⟨⟨?_,?_⟩,?_,?_⟩ ?_
       . simp -dsimp -implicitDefEqProofs only [go_sem]
       . simp -dsimp -implicitDefEqProofs only [go_sem]
       . simp -dsimp -implicitDefEqProofs only [go_sem]
       . simp -dsimp -implicitDefEqProofs only [go_sem];all_goals try (simp;done)
       . simp -dsimp -implicitDefEqProofs only [go_sem,uq4]
       . simp -dsimp -implicitDefEqProofs only [go_sem];all_goals try (simp;done)
       rintro r' m' ⟨hr,hm'⟩;rw [hr,hm'];simp -dsimp -implicitDefEqProofs only [go_sem,uq4];((with_reducible and_intros);all_goals try first|omega|(refine ⟨?_,?_⟩<;>omega)|exact rfl);all_goals first|(rw [tP];done)|(first|omega|(refine ⟨?_,?_⟩<;>omega)|exact rfl|(simp;done)|skip)
     rw [dD];have hl1:(eK ls).2.length=ls.length:=Dx ls;generalize eK ls=p at*;have tP:(p.2.map eS).take ls.length=p.2.map eS:=bW (by simp;omega);have tA:(p.1.a.map aM).take p.1.a.length=p.1.a.map aM:=bW (by simp);have tK:(p.1.k.map aM).take p.1.k.length=p.1.k.map aM:=bW (by simp);simp -dsimp -implicitDefEqProofs only [pz,bk,bR,bB,↓reduceIte,cK];simp -dsimp -implicitDefEqProofs only [go_sem,aC,tP,tA,tK];((with_reducible and_intros);all_goals try (omega));all_goals (first|(simp;done)|skip)
   have d2':=oT d2;have e1:¬(decide (s.length<=3000)&&decide (ls.length<=50))=true:=by simp only [uq0,decide_eq_true_eq];omega
   rw [if_neg e1,if_neg e1];simp -dsimp -implicitDefEqProofs only [go_sem];refine ab ht ?_;simp -dsimp -implicitDefEqProofs only [go_sem];refine ax hsp (by simp [ay,ao,aH]) ?_;simp -dsimp -implicitDefEqProofs only [go_sem,d0,d1,d2]
 have d1':=oT d1;have e1:¬(decide (s.length<=3000)&&decide (ls.length<=50))=true:=by simp only [uq0,decide_eq_true_eq];omega
 rw [if_neg e1,if_neg e1];simp -dsimp -implicitDefEqProofs only [go_sem];refine ab ht ?_;simp -dsimp -implicitDefEqProofs only [go_sem];refine ax hsp (by simp [ay,ao,aH]) ?_;simp -dsimp -implicitDefEqProofs only [go_sem,d0,d1]
theorem Nv (s:lU):(lh s).2=(pe s).2:=by unfold lh pe;split<;>rfl
theorem DF (s:lU) (h:s.length<=1048576):Fn pG 8 [eS s] true (· = .aZ [lz (lh s).1,eI (lh s).2]):=by refine Fn.av 15 [.cell 2 26,.tmp 3] func8 (hv:= ?_);have hr:=XO s h;rw [←Nv] at hr;generalize lh s=D at*;generalize pe s=O at*;have tA:(D.1.a.map aM).take D.1.a.length=D.1.a.map aM:=bW (by simp);have tK:(D.1.k.map aM).take D.1.k.length=D.1.k.map aM:=bW (by simp);simp -dsimp -implicitDefEqProofs only [go_sem];refine ab hr ?_;simp -dsimp -implicitDefEqProofs only [go_sem,tA,tK,uq4];((with_reducible and_intros));all_goals (first|(simp;done)|skip)
structure Uy (d:Dk):Prop where
 al:d.a.length<=10
 ar:∀x∈d.a,x.length<=12
 kl:d.k.length<=10
 kn:∀x∈d.k,x.length<=6
theorem Cp (xs:lL) (n b:Nat) (h:xs.length<=n) (h2:∀x∈xs,x.length<=b):(xs.map List.length).sum<=n*b:=by
 have:∀xs:lL,(∀x∈xs,x.length<=b)->(xs.map List.length).sum<=xs.length*b:=by
  intro xs;induction xs with
  |nil=>intro _;simp
  |cons x r ih=>
   intro h;have h1:=h x (List.mem_cons_self ..);have h3:=ih fun y hy=>h y (List.mem_cons_of_mem _ hy);rw [uq7,List.sum_cons,uq3,Nat.succ_mul];omega
 exact Nat.le_trans (this xs h2) (Nat.mul_le_mul_right _ h)
theorem Uy.ta {d:Dk} (h:Uy d):(d.a.map List.length).sum<=120:=Cp d.a 10 12 h.al h.ar
theorem Uy.tk {d:Dk} (h:Uy d):(d.k.map List.length).sum<=60:=Cp d.k 10 6 h.kl h.kn
theorem TA (s:lU):Uy (lh s).1:=by
 unfold lh;split
 . have h:=XM (KB (dw s));exact ⟨h.al,h.ar,by rw [h.kl];exact h.al,h.kn⟩
 exact ⟨by simp,by simp,by simp,by simp⟩
theorem Nw (d:Dk) (h:Uy d):Fn pG 9 [lz d,lz d] true (· =eB true):=by
 refine Fn.av 23 [.tmp 4] func9 (hv:= ?_);have h1:=Mw d.m d.m;rw [decide_eq_true rfl] at h1;have h2:=vd d.a d.a (by have:=h.al;omega) fun x hx=>by have:=h.ar x hx;omega
 rw [decide_eq_true rfl] at h2;have h3:=vd d.k d.k (by have:=h.kl;omega) fun x hx=>by have:=h.kn x hx;omega
 rw [decide_eq_true rfl] at h3;simp -dsimp -implicitDefEqProofs only [go_sem];refine ab h1 ?_;simp -dsimp -implicitDefEqProofs only [go_sem];refine ab h2 ?_;simp -dsimp -implicitDefEqProofs only [go_sem];refine ab h3 ?_;simp -dsimp -implicitDefEqProofs only [go_sem]
theorem Jt (d:Dk) (h:Uy d) (v v2:Nat):
 pw pG 10 [.row v ⟨1,false⟩ true (d.a.map aM),.row v2 ⟨1,false⟩ true (d.k.map aM)] [.agg [eI d.m.ah,eI d.m.aq,eI d.m.step,eI d.m.same,eI d.m.least,.ref 1000000000 v 0 d.a.length,.ref 1000000001 v2 0 d.k.length],eI 1]
  (fun x io=>x=eI (1+(d.a.map List.length).sum+(d.k.map List.length).sum)/\io=[.row v ⟨1,false⟩ true ((fD 1 (d.a.map List.length)).map aM),.row v2 ⟨1,false⟩ true ((fD (1+(d.a.map List.length).sum) (d.k.map List.length)).map aM)]):=by
 refine pw.av 14 [.tmp 4] func10 (hv:= ?_);have ta:=h.ta;have tk:=h.tk;have h1:=fun v=>ql d.a 1 v (by omega) (by have:=h.al;omega) (by omega);have h2:=fun v=>ql d.k (1+(d.a.map List.length).sum) v (by omega) (by have:=h.kl;omega) (by omega);simp -dsimp -implicitDefEqProofs only [go_sem];refine mE [1000000000] ?_;simp -dsimp -implicitDefEqProofs only [go_sem];refine nq (h1 _) ?_;simp -dsimp -implicitDefEqProofs only [go_sem];refine mE [1000000001] ?_;simp -dsimp -implicitDefEqProofs only [go_sem];refine nq (h2 _) ?_;simp -dsimp -implicitDefEqProofs only [go_sem]
theorem Ju (d:Dk) (h:Uy d):Fn pG 11 [.agg [eI d.m.ah,eI d.m.aq,eI d.m.step,eI d.m.same,eI d.m.least,aR (fD 1 (d.a.map List.length)),aR (fD (1+(d.a.map List.length).sum) (d.k.map List.length))],eI 1] true
 (· =eI (1+(d.a.map List.length).sum+(d.k.map List.length).sum)):=by
 refine Fn.av 18 [.tmp 4] func11 (hv:= ?_);have ta:=h.ta;have tk:=h.tk;have h1:=qm (d.a.map List.length) 1 (by omega) (by have:=h.al;simp;omega) (by omega);have h2:=qm (d.k.map List.length) (1+(d.a.map List.length).sum) (by omega) (by have:=h.kl;simp;omega) (by omega);generalize (d.a.map List.length).sum=A at*;generalize (d.k.map List.length).sum=K at*;have e1:decide ((1+(A:Int))<0)=false:=dF (by omega);have e2:decide ((1+(A:Int)+(K:Int))<0)=false:=dF (by omega);simp -dsimp -implicitDefEqProofs only [go_sem];refine ab h1 ?_;simp -dsimp -implicitDefEqProofs only [go_sem,e1];refine ab h2 ?_;simp -dsimp -implicitDefEqProofs only [go_sem,e2]
theorem re (s:lU):Fn pG 3 [eS s] true (· =eB true):=by
 refine Fn.av 66 [.tmp 2] func3 (hv:= ?_);rcases hk:decide ((s.length:Int)>1048576) with _|_
 . have h1:=of_decide_eq_false hk;have cs:=DE s (by omega);have ci:=DF s (by omega);have hB:=TA s;generalize lh s=D at*;obtain ⟨d,c⟩:=D;simp only at cs ci hB;have heq:=Nw d hB;have ky:=fun v v2=>Jt d hB v v2;have hhd:=Ju d hB;have ta:=hB.ta;have tk:=hB.tk;have tA:(d.a.map aM).take d.a.length=d.a.map aM:=bW (by simp);have tK:(d.k.map aM).take d.k.length=d.k.map aM:=bW (by simp);have lA:(fD 1 (d.a.map List.length)).length=d.a.length:=by simp [fD]
   have lK:(fD (1+(d.a.map List.length).sum) (d.k.map List.length)).length=d.k.length:=by simp [fD]
   have mA:((fD 1 (d.a.map List.length)).map aM).take d.a.length=(fD 1 (d.a.map List.length)).map aM:=bW (by simp [lA]);have mK:((fD (1+(d.a.map List.length).sum) (d.k.map List.length)).map aM).take d.k.length=(fD (1+(d.a.map List.length).sum) (d.k.map List.length)).map aM:=bW (by simp [lK]);generalize (d.a.map List.length).sum=A at*;generalize (d.k.map List.length).sum=K at*;have e0:(c != c)=false:=by simp
   have e1:decide ((1+(A:Int)+(K:Int))<0)=false:=dF (by omega);have e2:((1+(A:Int)+(K:Int)) != (1+(A:Int)+(K:Int)))=false:=by simp
   simp -dsimp -implicitDefEqProofs only [go_sem,hk];refine ax cs (by simp [ay,ao,aH]) ?_;simp -dsimp -implicitDefEqProofs only [go_sem];refine ab ci ?_;simp -dsimp -implicitDefEqProofs only [go_sem,tA,tK,uq4];refine ab heq ?_;simp -dsimp -implicitDefEqProofs only [go_sem,e0];refine mE [22005,22006] ?_;simp -dsimp -implicitDefEqProofs only [go_sem];refine nq (ky _ _) ?_;simp -dsimp -implicitDefEqProofs only [go_sem,mA,mK,lA,lK,uq4];refine ab hhd ?_;simp -dsimp -implicitDefEqProofs only [go_sem,e1,e2];refine ab ci ?_;simp -dsimp -implicitDefEqProofs only [go_sem,tA,tK,uq4];refine ab heq ?_;simp -dsimp -implicitDefEqProofs only [go_sem,e0,mA,mK,lA,lK,uq4];refine ab hhd ?_;simp -dsimp -implicitDefEqProofs only [go_sem,e1,e2]
 simp -dsimp -implicitDefEqProofs only [go_sem,hk]
end Go.Vc
namespace Go.Proofs.YtofpaabacebkkaaGreatDoor.fnExactDeskAfter
open Go.Vc Go.ChangeShapes Go.WideShapes Go.ChangeAt Go.RowKit
open Go.ChangeMaps (open_string shut_string)
set_option maxRecDepth 100000 in
theorem lifted (os:Os) (started:os.Started) (H:Type) (enc:TypeId × Value->H):
 ReturnsInHanded {} Tryz.checked os 3 .any (fun w args=>(Rows.fnExactDeskAfterSpec.pre enc pG Tryz.f3 [] false w args/\laidMetH pG laidAll w)/\sizedMet enc pG Tryz.f3 (OpenSpec.ofChange Rows.fnExactDeskAfterSpec) false w args)
  (Rows.fnExactDeskAfterSpec.post enc pG Tryz.f3 false true false false):=by
 refine Ih (C:=Tryz.checked) (X:=fun w _=>laidMetH pG laidAll w) (fun _ _ _ hh h=>h.of_heap hh) own started (by kernel_rfl) func3
  (ChangeSpec.witness_shaped (enc:=enc) (C:=Tryz.checked) (os:=os) (X:=fun w _=>laidMetH pG laidAll w) false (World.laidAll pG os laidAll) #[.string ⟨#[]⟩] 8 (World.laidAll_os _ _ _)
    (x8 os _) (by kernel_rfl) (by kernel_rfl) (by kernel_rfl) (Ft os _)) ?_
 intro W base args ds gs before UL hW _ _ hL hSh _;have TD:∀(j:Nat) t v,Tryz.f3.params[j]? =some t->args[j]? =some v->Value.okWide pG W .any base t v:=UL;have hW':=hW;obtain ⟨p,q,hA0,hV,rfl,hfz,hnd⟩:=hW;have hA:DataW.TrodAll enc pG W 0 (fun _=>true) true Tryz.f3.params.toList args.toList ds p:=hA0;rw [Tryz.params3] at hA TD;obtain ⟨v0,vs0,d0,ds0,p0,q0,ZC,rfl,rfl,h0,r0⟩:=trodAll_cons hA;obtain ⟨rfl,rfl,rfl⟩:=trodAll_nil r0;obtain rfl:args= #[v0]:=by cases args;simp_all
 obtain ⟨rfl,rfl⟩:=trodVars_none hV;have k0:=h0;have lt0:∀x∈p0,x.block<W.heap.size:=by obtain ⟨m,hm⟩:=k0;exact DataW.trod_lt m _ _ _ hm
 obtain ⟨x0,ok0,rd0⟩:=Ti.arg false (fun _=>rfl) h0 (by obtain ⟨_,e⟩:=okWide_string underlying9 (TD 0 9 v0 rfl rfl);subst e;rfl);clear hA0 UL
 refine (Fn.law (re x0) W (S6 hL hSh) #[v0] rfl (fun i hi=>match i,hi with
  |0,_=>rd0)).mono fun e W' ⟨he,bel⟩=> ?_
 subst he;exact ⟨_,rfl,_,_,_,[],_,[],hW',trodAll_mk1 (shut_bool underlying4 _),(trodAll_cons_mk (Below.trod laidOut (by kernel_rfl) (oT (by kernel_rfl)) k0 bel lt0) trodAll_mk0),rfl,bel.frame _,fun h=>by cases h⟩
end Go.Proofs.YtofpaabacebkkaaGreatDoor.fnExactDeskAfter
namespace Go.Proofs.YtofpaabacebkkaaGreatDoor.fnExactDeskAfter
open Go.Vc Go.ChangeShapes Go.WideShapes Go.ChangeAt Go.RowKit
open Go.ChangeMaps (open_string shut_string)
theorem Nx:(Rows.fnExactDeskAfterRow.inPlace==Tryz.pinned.checked.prog.inPlace 3)=true:=by kernel_rfl
theorem XP:(Rows.fnExactDeskAfterRow.unfollowed==Tryz.pinned.checked.prog.unfollowed 3)=true:=by kernel_rfl
end Go.Proofs.YtofpaabacebkkaaGreatDoor.fnExactDeskAfter
namespace Go.Proofs.YtofpaabacebkkaaGreatDoor.fnExactDeskAfter
open Go.Vc Go.ChangeShapes Go.WideShapes Go.ChangeAt Go.RowKit
open Go.ChangeMaps (open_string shut_string)
theorem XQ:(Rows.fnExactDeskAfterRow.recurses==Tryz.pinned.checked.prog.recurses 3)=true:=by kernel_rfl
theorem TB:(Rows.fnExactDeskAfterRow.named==Tryz.pinned.checked.prog.varsNamed 3)=true:=by kernel_rfl
end Go.Proofs.YtofpaabacebkkaaGreatDoor.fnExactDeskAfter
namespace Go.Proofs.YtofpaabacebkkaaGreatDoor.fnExactDeskAfter
open Go.Vc Go.ChangeShapes Go.WideShapes Go.ChangeAt Go.RowKit
open Go.ChangeMaps (open_string shut_string)
theorem closed:joinedFacts Tryz.pinned.checked.prog 3 Tryz.f3 Rows.fnExactDeskAfterSpec Rows.fnExactDeskAfterRow=true:=by
 unfold joinedFacts;rw [Nx,XP,XQ,TB]
 kernel_rfl
theorem holds:Rows.fnExactDeskAfterRow.holds Tryz.pinned (OpenSpec.ofChange Rows.fnExactDeskAfterSpec):=
 OpenClaim.holds_of_wide 3 Tryz.f3 rfl rfl rfl rfl rfl rfl rfl ⟨rfl,rfl,rfl,rfl,rfl⟩ rfl rfl rfl rfl rfl (by kernel_rfl) func3 closed
  (oT (by kernel_rfl)) (by unfold Func.isWrapper;(rw [if_neg (by decide+kernel)];exact ⟨rfl,rfl⟩))
  (fun os started H enc _=>lifted os started H enc)
end Go.Proofs.YtofpaabacebkkaaGreatDoor.fnExactDeskAfter
