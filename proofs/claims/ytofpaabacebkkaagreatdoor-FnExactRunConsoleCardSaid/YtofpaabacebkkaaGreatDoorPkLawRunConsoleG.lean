import Derived.Test.YtofpaabacebkkaaGreatDoorPkLawRunConsoleF
open Go.Proofs.Tryz
open Go.Proofs.Tryz renaming prog → pG
set_option linter.unusedVariables false
set_option linter.unusedSimpArgs false
set_option linter.unnecessarySimpa false
set_option maxRecDepth 1000000
set_option maxHeartbeats 16000000
open Bool renaming and_eq_true->uq0
open List renaming drop_succ_cons->uq1,drop_zero->uq2,length_cons->uq3,length_map->uq4,length_nil->uq5,map->uq6,map_cons->uq7,map_nil->uq8,mem_singleton->uq9,take_of_length_le->cK,take_succ_cons->dB,take_zero->dt
open Nat renaming reduceAdd->bu,reduceBEq->cF,reduceDiv->bf,reduceEqDiff->cj
namespace Go.Vc
open Go.Proofs
theorem IL (m:Mem) (sh:Sh) (xs:lA) (i j:Nat) (k:AV->Prop):iu m (.bq sh xs i j) k=k (.bq sh xs i j):=rfl
attribute [go_sem] IL
theorem gU (m:aK) (tb ab:lL):aq (nY m tb ab)=[]:=rfl
theorem Qa (m:aK) (tb ab:lL) (m1 m2:Mem):w8 m1 m2 (nY m tb ab) (nY m tb ab)=True:=by simp [nY,w8,jI,leaf]
theorem MH {α:Type} (m m2:Mem) (v v2:Nat) (sh:Sh) (zs:List α) (xs xs2:lA):xb m m2 (some (.row v sh zs.isEmpty xs)) (.row v2 sh zs.isEmpty xs2)=(xs=xs2):=by simp [xb]
theorem SX (l l2:Nat) (m:aK) (tb ab:lL):p8 l l2 (nY m tb ab)=nY m tb ab:=by simp [nY,p8,iO]
attribute [go_sem] gU Qa MH SX
def VA (lim bz b:Nat) (st:SS × Bool):Prop:=st.1.tries<=lim/\st.1.found.length<=bz+b
theorem Gh (lim bz:Nat):∀a b s,a<=b->VA lim bz a s->VA lim bz b s:=fun a b s h hs=>⟨hs.1,by have:=hs.2;omega⟩
theorem Qb (m:aK) (tb:lL) (lim d bz:Nat) (part:lL):∀b s k,VA lim bz b s->VA lim bz (b+1) (gF m tb lim part (fZ m tb lim d) s k).1:=fun b s k h=>by obtain ⟨g1,_,g3,_⟩:=T2 (m:=m) (part:=part) (fun p z h=>C5 m tb lim d p z h) s k h.1;exact ⟨g1,by have:=h.2;omega⟩
structure Yi (m:aK) (tb:lL) (lim d bz:Nat) (part:lL):Prop where
 pF:aY m=true
 tl:tb.length<=1000
 row:∀i (hi:i<tb.length),tb[i].length=(tb.getD 0 []).length
 wd:(tb.getD 0 []).length<=1000
 pl:part.length+(d+1)=tb.length
 px:∀x∈part,(x.length:Int)=m.af/\∀y∈x,0<=y/\y<m.ao
 lm:lim<=4000
 fb:bz+(d+1)*1000000<=20000000
def Qc (m:aK) (tb:lL) (lim d:Nat):Prop:=∀(part:lL) (z:SS),part.length+d=tb.length->(∀x∈part,(x.length:Int)=m.af/\∀y∈x,0<=y/\y<m.ao)->z.tries<=lim->z.found.length+d*1000000<=20000000→
    fK pG 256 [(1900000017,.box 0 [eI m.af,eI m.ao,eI m.step,eI m.same,eI m.least,aR tb,eI (lim:Int),eI (z.tries:Int),eB z.stop,.cm 255 [.ptr 1900000010 0 0 0,.ptr 1900000006 0 0 0]]),(1900000010,.box 0 [.ref 1900000012 z.found.length 0 z.found.length]),(1900000012,.row z.found.length ⟨1,false⟩ true (z.found.map aR)),(1900000006,.box 0 [eI 1])] [.ptr 1900000017 0 0 0,aR part,.val (.slice none 0 0)] (fun r m'=>r=eB (fZ m tb lim d part z).1/\m'=[(1900000017,.box 0 [eI m.af,eI m.ao,eI m.step,eI m.same,eI m.least,aR tb,eI (lim:Int),eI (((fZ m tb lim d part z).2).tries:Int),eB ((fZ m tb lim d part z).2).stop,.cm 255 [.ptr 1900000010 0 0 0,.ptr 1900000006 0 0 0]]),(1900000010,.box 0 [.ref 1900000012 ((fZ m tb lim d part z).2).found.length 0 ((fZ m tb lim d part z).2).found.length]),(1900000012,.row ((fZ m tb lim d part z).2).found.length ⟨1,false⟩ true (((fZ m tb lim d part z).2).found.map aR)),(1900000006,.box 0 [eI 1])])
theorem Xd (m:aK) (tb:lL) (lim d bz:Nat) (part:lL) (hG:Yi m tb lim d bz part) (hIH:Qc m tb lim d) (c:lI) (ae:Nat) (ys:lA) (st:SS × Bool) (hc:(c.length:Int)=m.af) (hcx:∀x∈c,0<=x/\x<m.ao) (hy:ys.take c.length=c.map eI) (hs:∃b:Nat,VA lim bz b st/\b+1<=1000000):
 fK pG 271 [(1700000010,.row ae ⟨1,false⟩ true ys),(1600000003,.box 0 [.ptr 1900000017 0 0 0]),(1600000004,.box 0 [aR part]),(1600000005,.box 0 [.val (.slice none 0 0)]),(1600000007,.box 0 [eB st.2]),(1600000008,.box 0 [.cm 280 (nY m tb part)]),(1900000017,.box 0 [eI m.af,eI m.ao,eI m.step,eI m.same,eI m.least,aR tb,eI (lim:Int),eI (st.1.tries:Int),eB st.1.stop,.cm 255 [.ptr 1900000010 0 0 0,.ptr 1900000006 0 0 0]]),(1900000010,.box 0 [.ref 1900000012 st.1.found.length 0 st.1.found.length]),(1900000012,.row st.1.found.length ⟨1,false⟩ true (st.1.found.map aR)),(1900000006,.box 0 [eI 1])] [.ref 1700000010 ae 0 c.length,.ptr 1600000005 0 0 0,.ptr 1600000003 0 0 0,.ptr 1600000007 0 0 0,.ptr 1600000008 0 0 0,.ptr 1600000004 0 0 0]
  (fun r m'=>r=eB (gF m tb lim part (fZ m tb lim d) st c).2/\m'=[(1700000010,.row ae ⟨1,false⟩ true ys),(1600000003,.box 0 [.ptr 1900000017 0 0 0]),(1600000004,.box 0 [aR part]),(1600000005,.box 0 [.val (.slice none 0 0)]),(1600000007,.box 0 [eB ((gF m tb lim part (fZ m tb lim d) st c).1).2]),(1600000008,.box 0 [.cm 280 (nY m tb part)]),(1900000017,.box 0 [eI m.af,eI m.ao,eI m.step,eI m.same,eI m.least,aR tb,eI (lim:Int),eI ((((gF m tb lim part (fZ m tb lim d) st c).1).1).tries:Int),eB (((gF m tb lim part (fZ m tb lim d) st c).1).1).stop,.cm 255 [.ptr 1900000010 0 0 0,.ptr 1900000006 0 0 0]]),(1900000010,.box 0 [.ref 1900000012 (((gF m tb lim part (fZ m tb lim d) st c).1).1).found.length 0 (((gF m tb lim part (fZ m tb lim d) st c).1).1).found.length]),(1900000012,.row (((gF m tb lim part (fZ m tb lim d) st c).1).1).found.length ⟨1,false⟩ true ((((gF m tb lim part (fZ m tb lim d) st c).1).1).found.map aR)),(1900000006,.box 0 [eI 1])]):=by
 refine fK.dK 46 [.tmp 7] func271 (hv:= ?_);have ko:=aM hG.pF;have hst:=P9 m tb part c hG.pF hG.tl (by have:=hG.pl;omega) hG.row hG.wd (fun x hx=>(hG.px x hx).1) hc;have hyl:c.length<=ys.length:=by have:=congrArg List.length hy;simp at this;omega
 obtain ⟨b,⟨hs1,hs2⟩,hs3⟩:=hs;obtain ⟨⟨tries,stop,found⟩,more⟩:=st;simp only at hs1 hs2 ⊢;unfold gF;simp only;have hlm:=hG.lm;have eT:((tries+1:Nat):Int)=(tries:Int)+1:=by omega
 rcases e1:((tries:Int)==(lim:Int)) with _|_
 . rcases e2:nF m tb part c with _|_
   . rw [e2] at hst;unfold nY at hst ⊢;simp -dsimp -implicitDefEqProofs only [go_sem];refine aj.draw mixed rfl ?_;simp -dsimp -implicitDefEqProofs only [go_sem,e1];refine ⟨by exact rfl,⟨by omega,by omega⟩,hyl,?_⟩;simp -dsimp -implicitDefEqProofs only [go_sem,hy];refine aa hst ?_;simp -dsimp -implicitDefEqProofs only [go_sem];refine ⟨_,rfl,aL ?_ ?_⟩
     . simp -dsimp -implicitDefEqProofs only [go_sem,eT]
     simp -dsimp -implicitDefEqProofs only [go_sem];simp [an,aq,ck]
   rw [e2] at hst;unfold nY at hst ⊢;have hcl:=P5 part (by have:=hG.pl;have:=hG.tl;omega);have hck:=xX c (by omega);simp -dsimp -implicitDefEqProofs only [go_sem];refine aj.draw mixed rfl ?_;simp -dsimp -implicitDefEqProofs only [go_sem,e1];refine ⟨by exact rfl,⟨by omega,by omega⟩,hyl,?_⟩;simp -dsimp -implicitDefEqProofs only [go_sem,hy];refine aa hst ?_;simp -dsimp -implicitDefEqProofs only [go_sem];refine aj.k9 7 mixed rfl ?_;simp -dsimp -implicitDefEqProofs only [dB,dt,uq1,uq2];simp -dsimp -implicitDefEqProofs only [go_sem];refine kL hcl (by decide) rfl (by decide) ?_;simp -dsimp -implicitDefEqProofs only [go_sem,hy,uq2];refine ⟨hyl,?_⟩;(refine ak (hck) ?_;try simp -dsimp -implicitDefEqProofs only [go_sem, *])
   have kZ:=hIH (part++[c]) ⟨tries+1,stop,found⟩ (by have:=hG.pl;simp;omega) (fun x hx=>by
    rcases List.mem_append.1 hx with hx|hx
    . exact hG.px x hx
    . rw [uq9] at hx;subst hx;exact ⟨hc,hcx⟩) (by
    have:tries≠lim:=fun e=>by rw [e] at e1;simp at e1
    simp only;omega) (by have:=hG.fb;simp only;omega)
   have eM:(part++[c]).map aQ=part.map aQ++[aQ c]:=by simp
   refine .inr ⟨by have:=hG.pl;have:=hG.tl;omega,by exact rfl,?_⟩
   refine H2 40000 1 ⟨1,false⟩ false (part.map aQ++[aQ c]) [.ptr 1900000017 0 0 0,aR (part++[c]),.val (.slice none 0 0)] (by decide) rfl
    (Fi (by simp [an]) (LN 0 (part.length+1) (by simp) (by rw [uq2,cK (by simp),←eM]) (Fi (by simp [an]) LO))) ?_
   refine LP kZ ⟨⟨?_,?_⟩,?_,?_⟩ ?_
   . simp -dsimp -implicitDefEqProofs only [go_sem]
   . simp -dsimp -implicitDefEqProofs only [go_sem];simp [an,aq,ck]
   . simp -dsimp -implicitDefEqProofs only [go_sem,eT]
   . simp -dsimp -implicitDefEqProofs only [go_sem];simp
   rintro r m' ⟨hr,hm'⟩;rw [hr,hm'];generalize fZ m tb lim d (part++[c]) ⟨tries+1,stop,found⟩=w at*;simp -dsimp -implicitDefEqProofs only [go_sem];refine ⟨_,rfl,aL ?_ ?_⟩
   . simp -dsimp -implicitDefEqProofs only [go_sem]
   simp -dsimp -implicitDefEqProofs only [go_sem];simp [an,aq,ck]
 unfold nY;simp -dsimp -implicitDefEqProofs only [go_sem];refine aj.draw mixed rfl ?_;simp -dsimp -implicitDefEqProofs only [go_sem,e1];refine ⟨by exact rfl,_,rfl,aL ?_ ?_⟩
 . simp -dsimp -implicitDefEqProofs only [go_sem]
 simp -dsimp -implicitDefEqProofs only [go_sem];simp [an,aq,ck]
theorem Xe (m:aK) (hm:aY m=true) (tb:lL) (lim d bz:Nat) (part:lL) (hG:Yi m tb lim d bz part) (hIH:Qc m tb lim d):∀(n:Nat) (c:lI) (t:KS (SS × Bool)),(c.length:Int)+n=m.af->(∀x∈c,0<=x/\x<m.ao)->Ds c t->(∃b:Nat,VA lim bz b t.s/\b+8^n<=1000000)→
 fK pG 262 [(1700000008,.box 0 [.ref 1700000010 t.ae 0 c.length]),(1700000010,.row t.ae ⟨1,false⟩ true (t.zs.map eI)),(1700000004,.box 0 [eI m.af,eI m.ao,eI m.step,eI m.same,eI m.least]),(1700000007,.box 0 [.cm 271 [.ptr 1600000005 0 0 0,.ptr 1600000003 0 0 0,.ptr 1600000007 0 0 0,.ptr 1600000008 0 0 0,.ptr 1600000004 0 0 0]]),(1700000005,.box 0 [.val (.slice none 0 0)]),(1700000006,.box 0 [.val .nilFunc]),(1700000009,.box 0 [.cm 262 [.ptr 1700000008 0 0 0,.ptr 1700000004 0 0 0,.ptr 1700000007 0 0 0,.ptr 1700000005 0 0 0,.ptr 1700000006 0 0 0,.ptr 1700000009 0 0 0]]),(1600000003,.box 0 [.ptr 1900000017 0 0 0]),(1600000004,.box 0 [aR part]),(1600000005,.box 0 [.val (.slice none 0 0)]),(1600000007,.box 0 [eB t.s.2]),(1600000008,.box 0 [.cm 280 (nY m tb part)]),(1900000017,.box 0 [eI m.af,eI m.ao,eI m.step,eI m.same,eI m.least,aR tb,eI (lim:Int),eI (t.s.1.tries:Int),eB t.s.1.stop,.cm 255 [.ptr 1900000010 0 0 0,.ptr 1900000006 0 0 0]]),(1900000010,.box 0 [.ref 1900000012 t.s.1.found.length 0 t.s.1.found.length]),(1900000012,.row t.s.1.found.length ⟨1,false⟩ true (t.s.1.found.map aR)),(1900000006,.box 0 [eI 1])] [eB false,.ptr 1700000008 0 0 0,.ptr 1700000004 0 0 0,.ptr 1700000007 0 0 0,.ptr 1700000005 0 0 0,.ptr 1700000006 0 0 0,.ptr 1700000009 0 0 0]
  (fun r m'=>r=eB (bp m (gF m tb lim part (fZ m tb lim d)) n c t).2/\m'=[(1700000008,.box 0 [.ref 1700000010 (bp m (gF m tb lim part (fZ m tb lim d)) n c t).1.ae 0 c.length]),(1700000010,.row (bp m (gF m tb lim part (fZ m tb lim d)) n c t).1.ae ⟨1,false⟩ true ((bp m (gF m tb lim part (fZ m tb lim d)) n c t).1.zs.map eI)),(1700000004,.box 0 [eI m.af,eI m.ao,eI m.step,eI m.same,eI m.least]),(1700000007,.box 0 [.cm 271 [.ptr 1600000005 0 0 0,.ptr 1600000003 0 0 0,.ptr 1600000007 0 0 0,.ptr 1600000008 0 0 0,.ptr 1600000004 0 0 0]]),(1700000005,.box 0 [.val (.slice none 0 0)]),(1700000006,.box 0 [.val .nilFunc]),(1700000009,.box 0 [.cm 262 [.ptr 1700000008 0 0 0,.ptr 1700000004 0 0 0,.ptr 1700000007 0 0 0,.ptr 1700000005 0 0 0,.ptr 1700000006 0 0 0,.ptr 1700000009 0 0 0]]),(1600000003,.box 0 [.ptr 1900000017 0 0 0]),(1600000004,.box 0 [aR part]),(1600000005,.box 0 [.val (.slice none 0 0)]),(1600000007,.box 0 [eB ((bp m (gF m tb lim part (fZ m tb lim d)) n c t).1.s).2]),(1600000008,.box 0 [.cm 280 (nY m tb part)]),(1900000017,.box 0 [eI m.af,eI m.ao,eI m.step,eI m.same,eI m.least,aR tb,eI (lim:Int),eI (((bp m (gF m tb lim part (fZ m tb lim d)) n c t).1.s).1.tries:Int),eB ((bp m (gF m tb lim part (fZ m tb lim d)) n c t).1.s).1.stop,.cm 255 [.ptr 1900000010 0 0 0,.ptr 1900000006 0 0 0]]),(1900000010,.box 0 [.ref 1900000012 ((bp m (gF m tb lim part (fZ m tb lim d)) n c t).1.s).1.found.length 0 ((bp m (gF m tb lim part (fZ m tb lim d)) n c t).1.s).1.found.length]),(1900000012,.row ((bp m (gF m tb lim part (fZ m tb lim d)) n c t).1.s).1.found.length ⟨1,false⟩ true (((bp m (gF m tb lim part (fZ m tb lim d)) n c t).1.s).1.found.map aR)),(1900000006,.box 0 [eI 1])]):=by
 intro n;have ⟨⟨zy,zz⟩,hd1,hd2⟩:=aM hm;induction n with
 |zero=>
  intro c t hl hc hz hs;have hk:((c.length:Int)==m.af)=true:=beq_iff_eq.2 (by omega);have ht:List.take c.length (uq6 eI t.zs)=uq6 eI c:=by rw [←List.map_take,hz.1]
  have hzl:c.length<=(uq6 eI t.zs).length:=by simpa using hz.2
  refine fK.dK 91 [.tmp 8] func262 (hv:= ?_);simp -dsimp -implicitDefEqProofs only [go_sem,hk];refine aj.k9 8 mixed rfl ?_;simp -dsimp -implicitDefEqProofs only [dB,dt,uq1,uq2];have sv:=iA c (by omega);rcases hq:decide ((bo c c.length:Int)<m.least) with _|_
  . have hq':=of_decide_eq_false hq;have eQ:bp m (gF m tb lim part (fZ m tb lim d)) 0 c t=(⟨t.ae,t.zs,((gF m tb lim part (fZ m tb lim d)) t.s c).1⟩,((gF m tb lim part (fZ m tb lim d)) t.s c).2):=by rw [bp,if_neg hq']
    rw [eQ];simp -dsimp -implicitDefEqProofs only [go_sem,ht,uq2];refine ⟨hz.2,?_⟩;(refine ak (sv) ?_;try simp -dsimp -implicitDefEqProofs only [go_sem, *]);refine ⟨by exact rfl,hz.2,?_⟩;refine cW (Xd m tb lim d bz part hG hIH c t.ae (t.zs.map eI) t.s (by omega) hc ht (by simpa using hs)) ⟨⟨?_,?_⟩,?_,?_⟩ ?_
    . simp -dsimp -implicitDefEqProofs only [go_sem]
    . simp -dsimp -implicitDefEqProofs only [go_sem];simp [an,aq,ck,gU]
    . simp -dsimp -implicitDefEqProofs only [go_sem]
    . simp -dsimp -implicitDefEqProofs only [go_sem];simp
    rintro r m' ⟨hr,hm'⟩;rw [hr,hm'];simp -dsimp -implicitDefEqProofs only [go_sem];refine ⟨_,rfl,aL ?_ ?_⟩
    . simp -dsimp -implicitDefEqProofs only [go_sem]
    simp -dsimp -implicitDefEqProofs only [go_sem];simp [an,aq,ck,gU]
  have hq':=oT hq;have eQ:bp m (gF m tb lim part (fZ m tb lim d)) 0 c t=(t,true):=by rw [bp,if_pos hq']
  rw [eQ];simp -dsimp -implicitDefEqProofs only [go_sem,ht,uq2];refine ⟨hz.2,?_⟩;(refine ak (sv) ?_;try simp -dsimp -implicitDefEqProofs only [go_sem, *]);refine ⟨by exact rfl,_,rfl,aL ?_ ?_⟩
  . simp -dsimp -implicitDefEqProofs only [go_sem]
  simp -dsimp -implicitDefEqProofs only [go_sem];simp [an,aq,ck,gU]
 |succ n ih=>
  intro c t hl hc hz hs;have hk:((c.length:Int)==m.af)=false:=beq_eq_false_iff_ne.2 (by omega);refine fK.dK 91 [.tmp 8] func262 (hv:= ?_);simp -dsimp -implicitDefEqProofs only [go_sem,hk];refine aj.up [0,1,2,5,6,9,10] [47,61,69,70,72,84] [1700000008,1700000010,1600000007,1900000017,1900000010,1900000012] m.ao.toNat (fun i=>(eC (aT m (gF m tb lim part (fZ m tb lim d)) n c) t i).2=true) (fun i=>[(11,eI i)]) (fun i=>[(1700000008,.box 0 [.ref 1700000010 (eC (aT m (gF m tb lim part (fZ m tb lim d)) n c) t i).1.ae 0 c.length]),(1700000010,.row (eC (aT m (gF m tb lim part (fZ m tb lim d)) n c) t i).1.ae ⟨1,false⟩ true ((eC (aT m (gF m tb lim part (fZ m tb lim d)) n c) t i).1.zs.map eI)),(1600000007,.box 0 [eB ((eC (aT m (gF m tb lim part (fZ m tb lim d)) n c) t i).1.s).2]),(1900000017,.box 0 [eI m.af,eI m.ao,eI m.step,eI m.same,eI m.least,aR tb,eI (lim:Int),eI (((eC (aT m (gF m tb lim part (fZ m tb lim d)) n c) t i).1.s).1.tries:Int),eB ((eC (aT m (gF m tb lim part (fZ m tb lim d)) n c) t i).1.s).1.stop,.cm 255 [.ptr 1900000010 0 0 0,.ptr 1900000006 0 0 0]]),(1900000010,.box 0 [.ref 1900000012 ((eC (aT m (gF m tb lim part (fZ m tb lim d)) n c) t i).1.s).1.found.length 0 ((eC (aT m (gF m tb lim part (fZ m tb lim d)) n c) t i).1.s).1.found.length]),(1900000012,.row ((eC (aT m (gF m tb lim part (fZ m tb lim d)) n c) t i).1.s).1.found.length ⟨1,false⟩ true (((eC (aT m (gF m tb lim part (fZ m tb lim d)) n c) t i).1.s).1.found.map aR))]) rfl ?_ rfl (fun i hi hI=> ?_) (fun hI=> ?_)
  . simp -dsimp -implicitDefEqProofs only [go_sem];simp [eC]
  . have hu:Ds c (eC (aT m (gF m tb lim part (fZ m tb lim d)) n c) t i).1:=pC hz i;have ki:∃b:Nat,VA lim bz b (eC (aT m (gF m tb lim part (fZ m tb lim d)) n c) t i).1.s/\b+8^n<=1000000:=by
     obtain ⟨b0,hJ0,hb0⟩:=hs;refine ⟨b0+i*8^n,FX (Gh lim bz) (fun c' t' b'=>yG hm (Gh lim bz) (Qb m tb lim d bz part) n c' t' b') t b0 hJ0 i,?_⟩;have h8:(i+1)*8^n<=8*8^n:=Nat.mul_le_mul_right _ (by omega);have h9:(i+1)*8^n=i*8^n+8^n:=Nat.succ_mul i (8^n);have h10:8^(n+1)=8*8^n:=by rw [Nat.pow_succ,Nat.mul_comm]
     omega
    have hlt:decide ((i:Int)<m.ao)=true:=dT (by omega);have hS:=iU hI;have cA:(aT m (gF m tb lim part (fZ m tb lim d)) n c i (eC (aT m (gF m tb lim part (fZ m tb lim d)) n c) t i).1).2=false->bp m (gF m tb lim part (fZ m tb lim d)) (n+1) c t=aT m (gF m tb lim part (fZ m tb lim d)) n c i (eC (aT m (gF m tb lim part (fZ m tb lim d)) n c) t i).1:=fun h=>by rw [←hS] at h ⊢;rw [dP,oR h m.ao.toNat (by omega)]
    rw [hS];clear hS hI;generalize (eC (aT m (gF m tb lim part (fZ m tb lim d)) n c) t i).1=u at*;obtain ⟨hu1,hu2⟩:=hu;have htk:List.take c.length (uq6 eI u.zs)=uq6 eI c:=by rw [←List.map_take,hu1]
    have hcl:c.length<=6:=by omega
    have hih:=ih (c++[(i:Int)]) ⟨u.ae+1,c++[(i:Int)],u.s⟩ (by simp;omega) (fun x hx=>by
     rcases List.mem_append.1 hx with h|h
     . exact hc x h
     simp at h;omega) ⟨List.take_length,Nat.le_refl _⟩ ki
    simp only [List.length_append,uq3,uq5,Nat.zero_add] at hih;have cJ:=ku (c++[(i:Int)]) (by simp) (by simp;omega);simp only [List.length_append,uq3,uq5,Nat.zero_add,Nat.add_sub_cancel] at cJ;have n6:uq6 eI c++[eI (i:Int)]=uq6 eI (c++[(i:Int)]):=by simp
    have lT:bJ m c i=(c.isEmpty|| !decide (e8 ((i:Int)-c.getD (c.length-1) 0)>m.step)):=by
     unfold bJ;congr 1;by_cases h:e8 ((i:Int)-c.getD (c.length-1) 0)<=m.step
     . rw [decide_eq_true h,decide_eq_false (by omega)];rfl
     rw [decide_eq_false h,decide_eq_true (by omega)];rfl
    have dI:fY m c i= !decide ((a6 (c++[(i:Int)]) c.length:Int)>m.same):=by
     unfold fY;by_cases h:(a6 (c++[(i:Int)]) c.length:Int)<=m.same
     . rw [decide_eq_true h,decide_eq_false (by omega)];rfl
     rw [decide_eq_false h,decide_eq_true (by omega)];rfl
    simp -dsimp -implicitDefEqProofs only [pz,cF,bf,bu,↓reduceIte,cj];simp -dsimp -implicitDefEqProofs only [go_sem,hlt];refine aj.draw mixed rfl ?_;have hfn:qY pG 216 .neq=some false:=rfl;rcases hk0:decide ((c.length:Int)>0) with _|_
    . have hce:c=[]:=by
       have:=of_decide_eq_false hk0;exact List.eq_nil_of_length_eq_zero (by omega)
      have hsT:bJ m c i=true:=by rw [hce];rfl
      clear hce;simp -dsimp -implicitDefEqProofs only [go_sem,hfn,hk0];refine ⟨by exact rfl,hu2,by omega,?_⟩;refine aj.k9 13 mixed rfl ?_;simp -dsimp -implicitDefEqProofs only [dB,dt,uq1,uq2];have htl:List.take (c.length+1) (uq6 eI (c++[(i:Int)]))=uq6 eI (c++[(i:Int)]):=cK (by simp);rcases hq2:decide ((a6 (c++[(i:Int)]) c.length:Int)>m.same) with _|_
      . have hcB:aT m (gF m tb lim part (fZ m tb lim d)) n c i u=bp m (gF m tb lim part (fZ m tb lim d)) n (c++[(i:Int)]) ⟨u.ae+1,c++[(i:Int)],u.s⟩:=by rw [aT,if_pos hsT,if_pos (by rw [dI,hq2];rfl),hu1]
        rw [hcB] at cA ⊢;clear hcB;generalize bp m (gF m tb lim part (fZ m tb lim d)) n (c++[(i:Int)]) ⟨u.ae+1,c++[(i:Int)],u.s⟩=w at*;obtain ⟨w,b⟩:=w;simp -dsimp -implicitDefEqProofs only [go_sem,htk,n6,htl];(refine ak (cJ) ?_;try simp -dsimp -implicitDefEqProofs only [go_sem, *]);refine ⟨by exact rfl,?_⟩;refine cW hih ⟨⟨?_,?_⟩,?_,?_⟩ ?_
        . simp -dsimp -implicitDefEqProofs only [go_sem]
        . simp -dsimp -implicitDefEqProofs only [go_sem];simp [an,aq,ck,gU]
        . simp -dsimp -implicitDefEqProofs only [go_sem]
        . simp -dsimp -implicitDefEqProofs only [go_sem];simp
        rintro r m' ⟨hr,hm'⟩;rw [hr,hm'];clear hr hm';cases b with
        |false=>
         rw [cA rfl];simp -dsimp -implicitDefEqProofs only [go_sem];refine ⟨by omega,_,rfl,aL ?_ ?_⟩
         . simp -dsimp -implicitDefEqProofs only [go_sem]
         simp -dsimp -implicitDefEqProofs only [go_sem];simp [an,aq,ck,gU]
        |true=>
         simp -dsimp -implicitDefEqProofs only [go_sem];exact ⟨by omega,⟨by omega,by omega⟩,by simp⟩
      have hcB:aT m (gF m tb lim part (fZ m tb lim d)) n c i u=(⟨u.ae+1,c++[(i:Int)],u.s⟩,true):=by rw [aT,if_pos hsT,if_neg (by rw [dI,hq2];exact fun h=>by cases h),hu1]
      rw [hcB];clear hcB cA;simp -dsimp -implicitDefEqProofs only [go_sem,htk,n6,htl];(refine ak (cJ) ?_;try simp -dsimp -implicitDefEqProofs only [go_sem, *]);exact ⟨by exact rfl,by omega,⟨by omega,by omega⟩,by simp⟩
    have hkp:=oT hk0;have hla:c.getD (c.length-1) 0=c[c.length-1]:=by simp [List.getD_eq_getElem?_getD,show c.length-1<c.length by omega]
    have j7:(uq6 eI u.zs)[c.length-1]? =some (eI (c.getD (c.length-1) 0)):=by
     have h1:(List.take c.length (uq6 eI u.zs))[c.length-1]? =(uq6 eI u.zs)[c.length-1]? :=by rw [List.getElem?_take];simp;omega
     rw [←h1,htk,hla];simp [show c.length-1<c.length by omega]
    have hlb:=hc _ (List.getElem_mem (show c.length-1<c.length by omega));rw [←hla] at hlb;generalize c.getD (c.length-1) 0=z at*;clear hla;have e1:((c.length:Int)-1).toNat=c.length-1:=by omega
    have pQ:=jl ((i:Int)-z) (by omega);rcases hq:decide (e8 ((i:Int)-z)>m.step) with _|_
    . have hsT:bJ m c i=true:=by rw [lT,hq];simp
      simp -dsimp -implicitDefEqProofs only [go_sem,hfn,hk0,e1,j7];refine ⟨⟨by omega,by omega⟩,⟨by omega,by omega⟩,⟨by omega,by omega⟩,?_⟩;(refine ak (pQ) ?_;try simp -dsimp -implicitDefEqProofs only [go_sem, *]);refine ⟨by exact rfl,by omega,?_⟩;refine aj.k9 13 mixed rfl ?_;simp -dsimp -implicitDefEqProofs only [dB,dt,uq1,uq2];have htl:List.take (c.length+1) (uq6 eI (c++[(i:Int)]))=uq6 eI (c++[(i:Int)]):=cK (by simp);rcases hq2:decide ((a6 (c++[(i:Int)]) c.length:Int)>m.same) with _|_
      . have hcB:aT m (gF m tb lim part (fZ m tb lim d)) n c i u=bp m (gF m tb lim part (fZ m tb lim d)) n (c++[(i:Int)]) ⟨u.ae+1,c++[(i:Int)],u.s⟩:=by rw [aT,if_pos hsT,if_pos (by rw [dI,hq2];rfl),hu1]
        rw [hcB] at cA ⊢;clear hcB;generalize bp m (gF m tb lim part (fZ m tb lim d)) n (c++[(i:Int)]) ⟨u.ae+1,c++[(i:Int)],u.s⟩=w at*;obtain ⟨w,b⟩:=w;simp -dsimp -implicitDefEqProofs only [go_sem,htl];(refine ak (cJ) ?_;try simp -dsimp -implicitDefEqProofs only [go_sem, *]);refine ⟨by exact rfl,?_⟩;refine cW hih ⟨⟨?_,?_⟩,?_,?_⟩ ?_
        . simp -dsimp -implicitDefEqProofs only [go_sem]
        . simp -dsimp -implicitDefEqProofs only [go_sem];simp [an,aq,ck,gU]
        . simp -dsimp -implicitDefEqProofs only [go_sem]
        . simp -dsimp -implicitDefEqProofs only [go_sem];simp
        rintro r m' ⟨hr,hm'⟩;rw [hr,hm'];clear hr hm';cases b with
        |false=>
         rw [cA rfl];simp -dsimp -implicitDefEqProofs only [go_sem];refine ⟨by omega,_,rfl,aL ?_ ?_⟩
         . simp -dsimp -implicitDefEqProofs only [go_sem]
         simp -dsimp -implicitDefEqProofs only [go_sem];simp [an,aq,ck,gU]
        |true=>
         simp -dsimp -implicitDefEqProofs only [go_sem];exact ⟨by omega,⟨by omega,by omega⟩,by simp⟩
      have hcB:aT m (gF m tb lim part (fZ m tb lim d)) n c i u=(⟨u.ae+1,c++[(i:Int)],u.s⟩,true):=by rw [aT,if_pos hsT,if_neg (by rw [dI,hq2];exact fun h=>by cases h),hu1]
      rw [hcB];clear hcB cA;simp -dsimp -implicitDefEqProofs only [go_sem,htl];(refine ak (cJ) ?_;try simp -dsimp -implicitDefEqProofs only [go_sem, *]);exact ⟨by exact rfl,by omega,⟨by omega,by omega⟩,by simp⟩
    have hsF:bJ m c i=false:=by
     rw [lT,hq];cases c with
     |nil=>simp at hkp
     |cons=>rfl
    have hcB:aT m (gF m tb lim part (fZ m tb lim d)) n c i u=(u,true):=by rw [aT,if_neg (by rw [hsF];exact fun h=>by cases h)]
    rw [hcB];clear hcB cA;simp -dsimp -implicitDefEqProofs only [go_sem,hfn,hk0,e1,j7];refine ⟨⟨by omega,by omega⟩,⟨by omega,by omega⟩,⟨by omega,by omega⟩,?_⟩;(refine ak (pQ) ?_;try simp -dsimp -implicitDefEqProofs only [go_sem, *]);exact ⟨by exact rfl,⟨by omega,by omega⟩,by simp⟩
  simp -dsimp -implicitDefEqProofs only [pz,cF,bf,bu,↓reduceIte,cj];have hlt:decide (((m.ao.toNat:Nat):Int)<m.ao)=false:=dF (by omega);simp -dsimp -implicitDefEqProofs only [go_sem,hlt];rw [dP];refine ⟨_,⟨by rw [hI],rfl⟩,aL ?_ ?_⟩
  . simp -dsimp -implicitDefEqProofs only [go_sem]
  simp -dsimp -implicitDefEqProofs only [go_sem];simp [an,aq,ck,gU]
theorem VB (m:aK) (tb:lL) (lim d:Nat) (ko:aY m=true) (htl:tb.length<=1000) (GH:∀i (hi:i<tb.length),tb[i].length=(tb.getD 0 []).length) (hwd:(tb.getD 0 []).length<=1000) (hlm:lim<=4000) (hIH:Qc m tb lim d):Qc m tb lim (d+1):=by
 intro part z hpl hpx htr hfb;have hG:Yi m tb lim d z.found.length part:=⟨ko,htl,GH,hwd,hpl,hpx,hlm,hfb⟩;have vC:=aM ko
 have eQ:=Xe m ko tb lim d z.found.length part hG hIH m.af.toNat [] ⟨0,[],(z,true)⟩ (by simp;omega) (fun x hx=>by cases hx) ⟨rfl,Nat.le_refl _⟩ (by
  have h8:(8:Nat)^m.af.toNat<=8^6:=Nat.pow_le_pow_right (by decide) (by omega)
  exact ⟨0,⟨htr,Nat.le_refl _⟩,by omega⟩)
 have hsp:=(iC m (gF m tb lim part (fZ m tb lim d)) m.af.toNat [] ⟨0,[],(z,true)⟩ ⟨rfl,Nat.le_refl _⟩).2.1;rw [show a7 m m.af.toNat []=bx m from rfl] at hsp;rw [Gg,←hsp];clear hsp;have hst:=Ge m tb part ko htl (by omega) GH hwd hpx;generalize bp m (gF m tb lim part (fZ m tb lim d)) m.af.toNat [] ⟨0,[],(z,true)⟩=w at*;have e:((part.length:Int)==(tb.length:Int))=false:=by simp;omega
 simp only [uq5,uq8] at eQ;refine fK.dK 39 [.tmp 6] func256 (hv:= ?_);simp -dsimp -implicitDefEqProofs only [go_sem];refine aj.draw mixed rfl ?_;simp -dsimp -implicitDefEqProofs only [go_sem,e];refine ⟨by exact rfl,?_⟩;refine aj.draw mixed rfl ?_;simp -dsimp -implicitDefEqProofs only [go_sem];refine aH hst (by simp [ax,an,aq,aG]) ?_;simp -dsimp -implicitDefEqProofs only [go_sem];refine ⟨by exact rfl,?_⟩;refine aj.k9 7 mixed rfl ?_;simp -dsimp -implicitDefEqProofs only [dB,dt,uq1,uq2];simp -dsimp -implicitDefEqProofs only [go_sem];refine ⟨by exact rfl,?_⟩;refine oL 1600000000 310000 16 [] func222 rfl rfl rfl rfl rfl (by exact oT rfl) ?_;simp -dsimp -implicitDefEqProofs only [go_sem];refine ji 1700000000 eQ ⟨?_,?_⟩ ⟨⟨?_,?_⟩,?_,?_⟩ ?_
 . simp -dsimp -implicitDefEqProofs only [go_sem]
 . simp -dsimp -implicitDefEqProofs only [go_sem]
 . simp -dsimp -implicitDefEqProofs only [go_sem]
 . simp -dsimp -implicitDefEqProofs only [go_sem];all_goals try (simp [an,aq,ck,gU];done)
 . simp -dsimp -implicitDefEqProofs only [go_sem]
 . simp -dsimp -implicitDefEqProofs only [go_sem];all_goals try (simp;done)
 rintro r m' ⟨hr,hm'⟩;rw [hr,hm'];simp -dsimp -implicitDefEqProofs only [go_sem];refine ⟨_,rfl,aL ?_ ?_⟩
 . simp -dsimp -implicitDefEqProofs only [go_sem]
 simp -dsimp -implicitDefEqProofs only [go_sem];simp [an,aq,ck]
theorem fK.Yj {P:Program} {f:FuncId} {m0:Mem} {x z:AV} {sh:Sh} {post:AV->Mem->Prop} (h:fK P f m0 [x,.arr sh [],z] post):fK P f m0 [x,.val (.slice none 0 0),z] post:=by
 refine ⟨h.1,fun w φ fp S vs hsz hR=>h.2 w φ fp S vs hsz {hR with tm:=fun t=> ?_,tl:=fun t l ae hl=> ?_}⟩
 . have:=hR.tm t;rw [bI] at this ⊢;match t,this with
   |0,this=>exact this
   |1,this=>
    have this:RV w S φ (.val (.slice none 0 0)) _:=this;obtain ⟨e,_⟩:=aS this;show RV w S φ (.arr sh []) _;rw [←e];exact .rd _ _ (.nil _ _)
   |2,this=>exact this
   |_+3,this=>exact this
 have:=hR.tl t l ae;rw [bI] at this hl;match t,this,hl with
 |0,this,hl=>exact this hl
 |1,_,hl=>cases hl
 |2,this,hl=>exact this hl
 |_+3,this,hl=>exact this hl
theorem Gi (m:aK) (tb:lL) (lim:Nat) (ko:aY m=true) (htl:tb.length<=1000) (GH:∀i (hi:i<tb.length),tb[i].length=(tb.getD 0 []).length) (hwd:(tb.getD 0 []).length<=1000) (hlm:lim<=4000) (ht0:0<tb.length):∀d,Qc m tb lim d
 |0=>fun part z hpl hpx htr hfb=>by
  have vC:=aM ko;exact Vz m tb lim part z htl (by omega) (by omega) (fun x hx=>by have:=(hpx x hx).1;omega) (by omega)
 |d+1=>VB m tb lim d ko htl GH hwd hlm (Gi m tb lim ko htl GH hwd hlm ht0 d)
theorem Gj {m:aK} {t:lL} {lim:Nat} (h:kU m t lim=0):lim<=4000:=by
 unfold kU at h;split at h
 . split at h
   . rename_i hi;simp only [bB,uq0,decide_eq_true_eq] at hi;omega
   exact absurd h (by decide)
 exact absurd h (by decide)
theorem Gk (m:aK) (t:lL) (lim:Nat) (h:t.length<=1048576) (h2:∀x∈t,x.length<=1048576):Fn pG 160 [jM m t,.val (.slice none 0 0),eI lim] true (fun r=>sJ r (lK m t lim)):=by
 refine Fn.dK 40 [.tmp 6,.tmp 7,.tmp 8] func160 (hv:= ?_);have hs:=zl m t lim h h2;unfold lK;by_cases hc:kU m t lim=0
 . have su:=Gj hc;rw [if_pos hc];rw [hc] at hs;have e:((0:Int) != 0)=false:=rfl;have hsy:eO m t=true:=by
    unfold kU at hc;by_cases hb:eO m t=true
    . exact hb
    rw [if_neg hb] at hc;exact absurd hc (by decide)
   have hF:Mw m t []:=Vw hsy (by simp) (fun x hx=>by cases hx);have hgo:=Gi m t lim hF.pF hF.tl hF.row hF.wd su hF.t0 t.length [] ⟨0,false,[]⟩ (by simp) (fun x hx=>by cases hx) (Nat.zero_le _) (by have:=hF.tl;have:=iT hsy;simp;omega);have hgo:=fK.Yj hgo;have hgf:=BZ (t:=t) (lim:=lim) hF.pF t.length [] ⟨0,false,[]⟩ (fun x hx=>by cases hx) rfl (Nat.zero_le _) rfl;have hgl:=(C5 m t lim t.length [] ⟨0,false,[]⟩ (Nat.zero_le _)).le;have hok:=(kT (m:=m) (t:=t) (lim:=lim) t.length [] ⟨0,false,[]⟩ (fun k h=>by cases h) (Nat.zero_le _) rfl).fl;rw [hgf] at hok ⊢;clear hgf;generalize fZ m t lim t.length [] ⟨0,false,[]⟩=w at*;simp -dsimp -implicitDefEqProofs only [go_sem];refine aa hs ?_;simp -dsimp -implicitDefEqProofs only [go_sem,e];have e1:decide ((1:Int)>0)=true:=rfl;refine ca 300000 25 [.tmp 8,.tmp 9] func211 rfl rfl rfl rfl rfl (by exact oT rfl) ?_;simp -dsimp -implicitDefEqProofs only [go_sem,e1,uq2,List.set_cons_zero,List.set_cons_succ];refine ji 1900000000 hgo ⟨?_,?_⟩ ⟨⟨?_,?_⟩,?_,?_⟩ ?_
   . simp -dsimp -implicitDefEqProofs only [go_sem]
   . simp -dsimp -implicitDefEqProofs only [go_sem]
   . simp -dsimp -implicitDefEqProofs only [go_sem]
   . simp -dsimp -implicitDefEqProofs only [go_sem];all_goals try (simp [an,aq,ck];done)
   . simp -dsimp -implicitDefEqProofs only [go_sem]
   . simp -dsimp -implicitDefEqProofs only [go_sem];all_goals try (simp;done)
   rintro r m' ⟨hr,hm'⟩;rw [hr,hm'];obtain ⟨b,tr,st,fd⟩:=w;simp only at hgl ⊢;rcases fd with _|⟨f,_|⟨f2,r2⟩⟩
   . have e2:decide (((0:Nat):Int)>0)=false:=rfl;have e3:decide ((0:Int)>0)=false:=rfl;cases st
     . simp -dsimp -implicitDefEqProofs only [go_sem,e3,uq5,uq8,fV];all_goals first|rfl|skip
     simp -dsimp -implicitDefEqProofs only [go_sem,e3,uq5,uq8,fV];all_goals first|rfl|skip
   . have e2:decide (((0+1:Nat):Int)>0)=true:=rfl;have e3:decide (((1:Nat):Int)>0)=true:=rfl;have e4:decide ((1:Int)>0)=true:=rfl;have hfl:0<(f.map aQ).length:=by
      have:=(hok f (by simp)).1;have:=hF.t0;simp only [uq5,Nat.zero_add] at*;rw [uq4];omega
     simp -dsimp -implicitDefEqProofs only [go_sem,e2,uq3,uq5,uq7,uq8];refine aj.CI 300012 1 0 500000 [aR f] (f.map aQ) ⟨1,false⟩ (by decide) rfl rfl hfl rfl fun u=> ?_;refine aj.U9 ?_;refine aj.draw mixed rfl ?_;simp -dsimp -implicitDefEqProofs only [go_sem,List.set_cons_zero];((with_reducible and_intros);all_goals try first|omega|exact rfl);refine hk.untold 6 500000 0 ⟨1,false⟩ (f.map aQ) u rfl rfl ?_;refine hk.go ?_;simp -dsimp -implicitDefEqProofs only [go_sem,fV];all_goals first|(simp;done)|skip
   simp at hgl
 rw [if_neg hc];have e:(kU m t lim != 0)=true:=bne_iff_ne.2 hc;simp -dsimp -implicitDefEqProofs only [go_sem];refine aa hs ?_;simp -dsimp -implicitDefEqProofs only [go_sem,e];all_goals first|rfl|skip
theorem zm (m:aK) (t:lL) (lim:Nat) (h:t.length<=1048576) (h2:∀x∈t,x.length<=1048576):Fn pG 116 [jM m t,eI lim] true (fun r=>sJ r (lK m t lim)):=by
 refine Fn.dK 13 [.tmp 4,.tmp 5,.tmp 6] func116 (hv:= ?_);have hf:Fn pG 160 [jM m t,.val (.slice none 0 0),eI lim] true (· =lK m t lim):=Fn.nil (Fn.mono (Gk m t lim h h2) fun x hx=>⟨_,hx,rfl⟩);rcases FO m t lim with ⟨f,tr,e,_⟩|⟨c,_,e⟩
 . rw [e] at hf ⊢;simp -dsimp -implicitDefEqProofs only [go_sem];refine aa hf ?_;simp -dsimp -implicitDefEqProofs only [go_sem];all_goals first|(simp;done)|skip
 rw [e] at hf ⊢;simp -dsimp -implicitDefEqProofs only [go_sem];refine aa hf ?_;simp -dsimp -implicitDefEqProofs only [go_sem];all_goals first|rfl|skip
theorem IM {α:Type} (t:List α) (at' i:Nat) (h:i<t.length):(t.take (i+1)).eraseIdx at'=(t.take i).eraseIdx at'++if i=at' then [] else [t[i]]:=by
 rw [List.take_succ_eq_append_getElem h];have hl:(t.take i).length=i:=by simp;omega
 by_cases e:i=at'
 . subst e;rw [if_pos rfl,List.append_nil,List.eraseIdx_of_length_le (l:=t.take i) (by omega),List.eraseIdx_append_of_length_le (by omega),hl,Nat.sub_self];simp
 rw [if_neg e];by_cases h2:at'<i
 . rw [List.eraseIdx_append_of_lt_length (by omega)]
 rw [List.eraseIdx_append_of_length_le (by omega),List.eraseIdx_of_length_le (by simp;omega),List.eraseIdx_of_length_le (by omega)]
theorem sr (t:lL) (at':Nat) (h:t.length<=1000) (h2:∀x∈t,x.length<=1048576):Fn pG 95 [aR t,eI at'] false (· =aR (t.eraseIdx at')):=by
 refine Fn.cf 26 [.tmp 4] func95 (hv:= ?_);have MW:=fun i h=>IM t at' i h;have fR:(t.take t.length).eraseIdx at'=t.eraseIdx at':=by rw [List.take_length]
 have hlen:∀i,((t.take i).eraseIdx at').length<=1000:=fun i=>by have:=List.length_eraseIdx_le (t.take i) at';simp at this;omega
 have h0:(t.take 0).eraseIdx at'=[]:=by simp
 generalize hG:(fun i=>(t.take i).eraseIdx at')=G at*;have eG:∀i,(t.take i).eraseIdx at'=G i:=fun i=>by rw [←hG]
 simp only [eG] at MW fR hlen h0;clear hG eG;simp -dsimp -implicitDefEqProofs only [go_sem];refine aj.up [0,1] [10,22,23,24] [7] t.length (fun _=>True) (fun i=>[(6,eI i),(5,.ref 7 0 0 (G i).length)]) (fun i=>[(7,.row 0 ⟨1,false⟩ (G i).isEmpty ((G i).map aQ))]) trivial ?_ rfl (fun i hi _=> ?_) (fun _=> ?_)
 . rw [h0];simp -dsimp -implicitDefEqProofs only [go_sem,List.isEmpty_nil,uq8,uq5]
 . have gi:=get_some hi;have li:=aE hi;have ho:=s7 t[i] (h2 _ (List.getElem_mem hi));have hs:=MW i hi;have YN:=hlen i;have hE:∀C:lL,C.isEmpty=false\/C.length=0:=fun C=>by cases C with|nil=>exact .inr rfl|cons=>exact .inl rfl
   generalize t[i]=x at*;have e2:=fun K:lL=>show (K++[x]).map aQ=K.map aQ++[aQ x] by simp
   have e3:=fun K:lL=>show (K++[x]).isEmpty=false by simp
   clear MW hlen;generalize G i=K at*;generalize G (i+1)=K2 at*;have tK:(K.map aQ).take K.length=K.map aQ:=cK (by simp);by_cases e:i=at'
   . rw [if_pos e,List.append_nil] at hs;subst hs;have ee:((i:Int) != (at':Int))=false:=by rw [e];simp
     simp -dsimp -implicitDefEqProofs only [pz,cF,bf,bu,↓reduceIte,cj];simp -dsimp -implicitDefEqProofs only [go_sem,li,ee];((with_reducible and_intros);all_goals try first|(refine ⟨?_,?_⟩<;>omega)|exact rfl)
   rw [if_neg e] at hs;subst hs;have ee:((i:Int) != (at':Int))=true:=by simp;omega
   simp -dsimp -implicitDefEqProofs only [pz,cF,bf,bu,↓reduceIte,cj];simp -dsimp -implicitDefEqProofs only [go_sem,gi,li,ee];((with_reducible and_intros);all_goals try (omega));refine av ho (by simp [ax,an,aG]) ?_;simp -dsimp -implicitDefEqProofs only [go_sem];refine .inr ⟨by omega,hE K,⟨by omega,by omega⟩,?_⟩;simp -dsimp -implicitDefEqProofs only [go_sem,e2,e3];(all_goals try (exact rfl))
 rw [fR];generalize t.eraseIdx at'=K at*;simp -dsimp -implicitDefEqProofs only [pz,cF,bf,bu,↓reduceIte,cj];simp -dsimp -implicitDefEqProofs only [go_sem,aA]
open Go.Lib
structure Dk where
 m:aK
 a:lL
 k:lL
abbrev mK (d:Dk):AV:=WV d.m d.a d.k
def k7 (d:Dk):Bool:=gM d.m d.a d.k
def QU:Dk:=⟨⟨4,5,3,2,2⟩,[],[]⟩
inductive C6 where
 |kX (m:aK)
 |key (x y:List UInt8)
 |drop (n:Nat)
 |find (n:Nat)
 |M1
 |cg
 |oZ
 |count
 |j3
 |lock (n:Nat)
 |opens (x:List UInt8)
 |o1 (n s:Nat)
def vw (d:Dk) (x y:lU):Dk × Int:=
 if (j6 d.m x).2=0 then
  if y.all dO=true then
   if gM d.m (d.a++[bw y]) (d.k++[(j6 d.m x).1])=true then (⟨d.m,d.a++[bw y],d.k++[(j6 d.m x).1]⟩,0) else (d,2)
  else (d,6)
 else (d,(j6 d.m x).2)
def gJ (m:aK) (t:lL) (lim:Nat):lL × Int × Int:=
 if kU m t lim=0 then
  (match (dN m t lim t.length [] ⟨0,false,[]⟩).2.found with
    |f::_=>(f,((dN m t lim t.length [] ⟨0,false,[]⟩).2.tries:Int),0)
    | []=>([],0,if (dN m t lim t.length [] ⟨0,false,[]⟩).2.stop=true then 3 else 4))
 else ([],0,kU m t lim)
theorem Gl (m:aK) (t:lL) (lim:Nat):sJ (lK m t lim) (.aX [aR (gJ m t lim).1,eI (gJ m t lim).2.1,eI (gJ m t lim).2.2]):=by
 unfold lK gJ fV;generalize dN m t lim t.length [] ⟨0,false,[]⟩=F;obtain ⟨b,tr,st,fd⟩:=F;split
 . cases fd with
   |nil=>exact ⟨rfl,rfl,rfl,rfl⟩
   |cons f r=>exact ⟨rfl,rfl,rfl,rfl⟩
 exact ⟨rfl,rfl,rfl,rfl⟩
theorem Qd {m:aK} {t:lL} {lim:Nat} (h:(gJ m t lim).2.2=0):eO m t=true/\(gJ m t lim).1.length=t.length/\∀k∈(gJ m t lim).1,fB m k=true:=by
 unfold gJ at h ⊢;by_cases hc:kU m t lim=0
 . have hs:eO m t=true:=by
    cases h:eO m t with
    |true=>rfl
    |false=>rw [kU,h,if_neg (by simp)] at hc;exact absurd hc (by decide)
   rw [if_pos hc] at h ⊢;have hok:=kT (m:=m) (t:=t) (lim:=lim) t.length [] ⟨0,false,[]⟩ (fun k h=>by cases h) (Nat.zero_le _) rfl;generalize dN m t lim t.length [] ⟨0,false,[]⟩=F at*;obtain ⟨b,tr,st,fd⟩:=F;obtain ⟨g1,g2,g3,g4⟩:=hok;simp only at g1 g2 g3 g4 h ⊢;cases fd with
   |nil=>
    cases st<;>simp at h
   |cons f r=>
    have hf:=g4 f (List.mem_cons_self ..);have hn:=aM (lG hs);refine ⟨hs,by simpa using hf.1,fun k hk=> ?_⟩;exact beq_iff_eq.2 (qc.fault (kg (by omega) (hf.2 k hk)))
 rw [if_neg hc] at h;exact absurd h hc
def dQ (d:Dk):C6->Dk × Int
 | .kX m=>if aY m=true then (⟨m,[],[]⟩,0) else (d,1)
 | .key x y=>vw d x y
 | .drop n=>if n<d.k.length then (⟨d.m,d.a.eraseIdx n,d.k.eraseIdx n⟩,0) else (d,2)
 | .find n=>if (gJ d.m d.a n).2.2=0 then (⟨d.m,d.a,(gJ d.m d.a n).1⟩,0) else (d,(gJ d.m d.a n).2.2)
 |_=>(d,0)
def bY (e:lU) (d:Dk):C6->lU × Int
 | .M1=>(itoa (mI d.m d.a d.k).length,bS d.m d.a d.k)
 | .cg=>(itoa (if bk d.m d.a d.k=true then ((cg d.m d.a d.k).length:Int) else 0),if bk d.m d.a d.k=true then 0 else 1)
 | .count=>(itoa (if aY d.m=true then iG d.m else 0),if aY d.m=true then 0 else 1)
 | .j3=>(itoa (if bk d.m d.a d.k=true then nX d.m d.a d.k else 0),if bk d.m d.a d.k=true then 0 else 1)
 | .lock n=>if bS d.m d.a d.k=0 then if n<(d.a.getD 0 []).length then (pO (pins d.m (bN d.m d.a d.k n)),0) else ([],2) else ([],bS d.m d.a d.k)
 | .opens x=>if (j6 d.m x).2=0 then if (BM d.m d.a d.k (j6 d.m x).1).2=0 then (yu (BM d.m d.a d.k (j6 d.m x).1).1,0) else (e,(BM d.m d.a d.k (j6 d.m x).1).2) else ([],(j6 d.m x).2)
 | .oZ=>(match yJ d.m d.a d.k with| []=>[45]|g::_=>oX g,if bk d.m d.a d.k=true then 0 else 1)
 | .o1 n s=>if n<d.k.length then jZ d.m (d.k.getD n []) 0 s else ([],2)
 |_=>([],0)
theorem MI (e e':lU) (d:Dk) (c:C6):(bY e d c).2=(bY e' d c).2:=by
 cases c<;>simp only [bY];split
 . split<;>rfl
 rfl
theorem MJ (e e':lU) (d:Dk) (c:C6) (h:(bY e d c).2=0):(bY e d c).1=(bY e' d c).1:=by
 cases c<;>simp only [bY];simp only [bY] at h;split at h
 . rename_i h1;rw [if_pos h1,if_pos h1];split at h
   . rename_i h2;rw [if_pos h2,if_pos h2]
   rename_i h2;exact absurd h h2
 rename_i h1;exact absurd h h1
def yO:C6->Bool
 | .kX _=>true
 | .key _ _=>true
 | .drop _=>true
 | .find _=>true
 |_=>false
inductive mJ:List (List UInt8)->List Int->C6->Prop where
 |kX (x1 x2 x3 x4 x5:List UInt8) (n1 n2 n3 n4 n5:Nat):(n1<=9999999999999/\n2<=9999999999999/\n3<=9999999999999/\n4<=9999999999999/\n5<=9999999999999)->mJ [gP,x1,x2,x3,x4,x5] [n1,n2,n3,n4,n5] (.kX ⟨n1,n2,n3,n4,n5⟩)
 |key (x y:List UInt8):mJ [kW,x,y] [] (.key x y)
 |drop (x:List UInt8) (n:Nat):n<=9999999999999->mJ [iD,x] [n] (.drop n)
 |find (x:List UInt8) (n:Nat):n<=9999999999999->mJ [gT,x] [n] (.find n)
 |M1:mJ [iW] [] .M1
 |cg:mJ [eW] [] .cg
 |oZ:mJ [dY] [] .oZ
 |count:mJ [fP] [] .count
 |j3:mJ [dj] [] .j3
 |lock (x:List UInt8) (n:Nat):n<=9999999999999->mJ [jc,x] [n] (.lock n)
 |opens (x:List UInt8):mJ [dr,x] [] (.opens x)
 |o1 (x y:List UInt8) (n s:Nat):(n<=9999999999999/\s<=9999999999999)->mJ [dW,x,y] [n,s] (.o1 n s)
theorem MK (w:lU) (h:0<=cE w):(cE w=0/\(w=iW\/w=eW\/w=dY\/w=fP\/w=dj))\/(cE w=1/\(w=iD\/w=gT\/w=jc))\/(cE w=2/\w=dW)\/(cE w=5/\w=gP)\/(cE w=11/\w=dr)\/(cE w=12/\w=kW):=by
 unfold cE at h ⊢;rcases Classical.em (w=iW) with q|q
 . simp only [if_pos q];simp [q]
 simp only [if_neg q] at h ⊢;rcases Classical.em (w=eW) with q2|q2
 . simp only [if_pos q2];simp [q2]
 simp only [if_neg q2] at h ⊢;rcases Classical.em (w=dY) with q3|q3
 . simp only [if_pos q3];simp [q3]
 simp only [if_neg q3] at h ⊢;rcases Classical.em (w=fP) with q4|q4
 . simp only [if_pos q4];simp [q4]
 simp only [if_neg q4] at h ⊢;rcases Classical.em (w=dj) with q5|q5
 . simp only [if_pos q5];simp [q5]
 simp only [if_neg q5] at h ⊢;rcases Classical.em (w=iD) with q6|q6
 . simp only [if_pos q6];simp [q6]
 simp only [if_neg q6] at h ⊢;rcases Classical.em (w=gT) with q7|q7
 . simp only [if_pos q7];simp [q7]
 simp only [if_neg q7] at h ⊢;rcases Classical.em (w=jc) with q8|q8
 . simp only [if_pos q8];simp [q8]
 simp only [if_neg q8] at h ⊢;rcases Classical.em (w=dW) with q9|q9
 . simp only [if_pos q9];simp [q9]
 simp only [if_neg q9] at h ⊢;rcases Classical.em (w=gP) with q10|q10
 . simp only [if_pos q10];simp [q10]
 simp only [if_neg q10] at h ⊢;rcases Classical.em (w=dr) with q11|q11
 . simp only [if_pos q11];simp [q11]
 simp only [if_neg q11] at h ⊢;rcases Classical.em (w=kW) with q12|q12
 . simp only [if_pos q12];simp [q12]
 simp only [if_neg q12] at h;exact absurd h (by decide)
theorem jS {w:lU} (h:(dS w).2=true):∃n:Nat,(dS w).1=n/\n<=9999999999999:=by
 obtain ⟨v1,v2⟩:=sW h;obtain ⟨h1,h2,h3⟩:=(td w).2 h;have hd:∀c∈w,48<=c.toNat/\c.toNat<=57:=by intro c hc;rw [e7 v1] at v2;exact py _ c (by rw [←v2];exact hc)
 have hb:=rY w 0 hd;have hp:10^w.length<=10000000000000:=JP h3;have hv:(dS w).1=(jL 0 w:Nat):=by
  unfold dS at h ⊢;split
  . rename_i hc;rw [if_pos hc] at h;cases h
  rename_i hc;rw [if_neg hc] at h;split
  . rfl
  rename_i hd2;rw [if_neg hd2] at h;cases h
 exact ⟨jL 0 w,hv,by omega⟩
theorem J0 {α:Type} {r:List α} (h:r.length=2):∃x y,r=[x,y]:=by
 match r,h with
 | [x,y],_=>exact ⟨x,y,rfl⟩
theorem B0 {s:lU} (h:(fj s).2.2=true):∃c,mJ (fj s).1 (fj s).2.1 c:=by
 unfold fj at h ⊢;generalize di 32 s=ws at*;split at h
 . cases h
 rename_i h1;rw [if_neg h1];have hk0:¬cE (ws.headD [])<0:=fun q=>h1 (.inl q);have hl:(ws.length:Int)=(cE (ws.headD [])).tmod 10+1:=Classical.not_not.1 fun q=>h1 (.inr q);clear h1;cases ws with
 |nil=>
  have:(0:Int)<=(cE (([]:List lU).headD [])).tmod 10:=Int.tmod_nonneg _ (by omega);simp only [uq5] at hl;omega
 |cons w r=>
 simp only [List.headD_cons,uq3,uq1,uq2] at h hk0 hl ⊢;have cR:=MK w (by omega);split at h
 . rename_i h10;rw [if_pos h10];rcases cR with ⟨e,_⟩|⟨e,_⟩|⟨e,_⟩|⟨e,_⟩|⟨e,q⟩|⟨e,q⟩
   . omega
   . omega
   . omega
   . omega
   . rw [e] at hl;have hl:((r.length+1:Nat):Int)=2:=hl;obtain ⟨x,rfl⟩:=List.length_eq_one_iff.1 (show r.length=1 by omega);subst q;exact ⟨_,.opens x⟩
   rw [e] at hl;have hl:((r.length+1:Nat):Int)=3:=hl;obtain ⟨x,y,rfl⟩:=J0 (show r.length=2 by omega);subst q;exact ⟨_,.key x y⟩
 rename_i h10;rw [if_neg h10];split at h
 . rename_i hv;rw [if_pos hv];have hv:=List.all_eq_true.1 hv;rcases cR with ⟨e,q⟩|⟨e,q⟩|⟨e,q⟩|⟨e,q⟩|⟨e,_⟩|⟨e,_⟩
   . rw [e] at hl;have hl:((r.length+1:Nat):Int)=1:=hl;obtain rfl:=List.eq_nil_of_length_eq_zero (show r.length=0 by omega);rcases q with rfl|rfl|rfl|rfl|rfl
     . exact ⟨_,.M1⟩
     . exact ⟨_,.cg⟩
     . exact ⟨_,.oZ⟩
     . exact ⟨_,.count⟩
     exact ⟨_,.j3⟩
   . rw [e] at hl;have hl:((r.length+1:Nat):Int)=2:=hl;obtain ⟨x,rfl⟩:=List.length_eq_one_iff.1 (show r.length=1 by omega);obtain ⟨n,hn,hb⟩:=jS (hv x (by simp));simp only [uq7,uq8,hn];rcases q with rfl|rfl|rfl
     . exact ⟨_,.drop x n hb⟩
     . exact ⟨_,.find x n hb⟩
     exact ⟨_,.lock x n hb⟩
   . rw [e] at hl;have hl:((r.length+1:Nat):Int)=3:=hl;obtain ⟨x,y,rfl⟩:=J0 (show r.length=2 by omega);obtain ⟨n,hn,hb⟩:=jS (hv x (by simp));obtain ⟨n2,hn2,hb2⟩:=jS (hv y (by simp));simp only [uq7,uq8,hn,hn2];subst q;exact ⟨_,.o1 x y n n2 ⟨hb,hb2⟩⟩
   . rw [e] at hl;have hl:((r.length+1:Nat):Int)=6:=hl;match r,hl with
     | [x1,x2,x3,x4,x5],_=>
       obtain ⟨n1,e1,b1⟩:=jS (hv x1 (by simp));obtain ⟨n2,e2,b2⟩:=jS (hv x2 (by simp));obtain ⟨n3,e3,b3⟩:=jS (hv x3 (by simp));obtain ⟨n4,e4,b4⟩:=jS (hv x4 (by simp));obtain ⟨n5,e5,b5⟩:=jS (hv x5 (by simp));simp only [uq7,uq8,e1,e2,e3,e4,e5];subst q;exact ⟨_,.kX x1 x2 x3 x4 x5 n1 n2 n3 n4 n5 ⟨b1,b2,b3,b4,b5⟩⟩
     | [],hl=>simp at hl
     | [_],hl=>simp at hl
     | [_,_],hl=>simp at hl
     | [_,_,_],hl=>simp at hl
     | [_,_,_,_],hl=>simp at hl
     |_::_::_::_::_::_::_,hl=>simp at hl;omega
   . omega
   omega
 cases h
noncomputable def Gm (s:lU):Option C6:=if h:(fj s).2.2=true then some (B0 h).choose else none
theorem yP {s:lU} (h:(fj s).2.2=true):∃c,Gm s=some c/\mJ (fj s).1 (fj s).2.1 c:=⟨_,by rw [Gm,dif_pos h],(B0 h).choose_spec⟩
theorem yQ {s:lU} (h:(fj s).2.2=false):Gm s=none:=by rw [Gm,dif_neg (by rw [h];simp)]
def yR (c:Int):lU:=[101,114,114,111,114,32]++itoa c
def VC (d:Dk) (c:C6):Dk × lU:=
 if yO c=true then (if (dQ d c).2=0 then ((dQ d c).1,[111,107]) else (d,yR (dQ d c).2))
 else if (bY [] d c).2=0 then (d,(bY [] d c).1) else (d,yR (bY [] d c).2)
noncomputable def nZ (d:Dk) (l:lU):Dk × lU:=match Gm l with
 |some c=>VC d c
 |none=>(d,yR 6)
noncomputable def yS (p:Dk × List lU) (l:lU):Dk × List lU:=((nZ p.1 l).1,p.2++[(nZ p.1 l).2])
noncomputable def eU (ls:List lU):Dk × List lU:=ls.foldl yS (QU,[])
theorem yT:eU []=(QU,[]):=rfl
theorem ML (ls:List lU) (l:lU):eU (ls++[l])=yS (eU ls) l:=by simp [eU]
theorem tz {ls:List lU} {i:Nat} (h:i<ls.length):eU (ls.take (i+1))=yS (eU (ls.take i)) ls[i]:=by rw [List.take_succ_eq_append_getElem h,ML]
structure Wg (d:Dk):Prop where
 pF:aY d.m=true
 num:(2<=d.m.af/\d.m.af<=6)/\2<=d.m.ao/\d.m.ao<=8
 al:d.a.length<=10
 ar:∀x∈d.a,x.length<=12
 kl:d.k.length=d.a.length
 kr:∀x∈d.k,fB d.m x=true
 kn:∀x∈d.k,x.length<=6
 tb:d.a=[]\/iF d.a=true
theorem tB {t:lL} (h:iF t=true):∀x∈t,gm (t.getD 0 []).length x=true:=by simp only [iF,uq0,List.all_eq_true] at h;exact h.2
theorem B1 {n:Nat} {x:lI} (h:gm n x=true):x.length=n/\x.length<=12:=by simp only [gm,uq0,beq_iff_eq,decide_eq_true_eq] at h;exact ⟨h.1.1.1,h.1.2⟩
theorem Yk {d:Dk} (h:k7 d=true):Wg d:=by
 simp only [k7,gM,uq0,Bool.or_eq_true,beq_iff_eq,List.all_eq_true] at h;obtain ⟨⟨⟨h1,h2⟩,h3⟩,h4⟩:=h;have hn:=aM h1;obtain ⟨⟨n1,n2⟩,n3,n4⟩:=hn;have htb:d.a=[]\/iF d.a=true:=by
  rcases h2 with h2|h2
  . exact .inl (List.eq_nil_of_length_eq_zero (by omega))
  exact .inr h2
 refine ⟨h1,⟨⟨by omega,by omega⟩,by omega,by omega⟩,?_,?_,by omega,h4,?_,htb⟩
 . rcases htb with e|e
   . rw [e];simp
   exact (mG e).2.1
 . rcases htb with e|e
   . rw [e];simp
   exact fun x hx=>(B1 (tB e x hx)).2
 intro x hx;have:=(gq (h4 x hx)).1;omega
theorem IN {d:Dk} (h1:aY d.m=true) (h2:d.a=[]\/iF d.a=true) (h3:d.k.length=d.a.length) (h4:∀x∈d.k,fB d.m x=true):k7 d=true:=by
 simp only [k7,gM,uq0,Bool.or_eq_true,beq_iff_eq,List.all_eq_true];refine ⟨⟨⟨h1,?_⟩,by omega⟩,h4⟩;rcases h2 with h2|h2
 . left;rw [h2];rfl
 exact .inr h2
theorem VD:k7 QU=true:=by decide
theorem qf {α:Type} {xs:List α} {i:Nat} {x:α} (h:x∈xs.eraseIdx i):x∈xs:=List.mem_of_mem_eraseIdx h
theorem IP {t:lL} (h:iF t=true) (i:Nat):t.eraseIdx i=[]\/iF (t.eraseIdx i)=true:=by
 have hr:=tB h;have hn:=mG h;cases he:t.eraseIdx i with
 |nil=>exact .inl rfl
 |cons x r=>
  right;have hm:∀y∈x::r,gm (t.getD 0 []).length y=true:=fun y hy=>hr y (qf (i:=i) (by rw [he];exact hy));have hx:=(B1 (hm x (by simp))).1;have hl:=List.length_eraseIdx_le t i;rw [he] at hl;simp only [iF,uq0,decide_eq_true_eq,List.all_eq_true,List.getD_cons_zero];rw [hx];exact ⟨⟨by simp,by omega⟩,hm⟩
theorem VE {d:Dk} (h:k7 d=true) (c:C6):k7 (dQ d c).1=true:=by
 have hF:=Yk h;cases c with
 |kX m=>
  simp only [dQ];split
  . rename_i hm;exact IN hm (.inl rfl) rfl (by simp)
  exact h
 |key x y=>
  simp only [dQ,vw];split
  . split
    . split
      . rename_i hd;exact hd
      exact h
    exact h
  exact h
 |drop n=>
  simp only [dQ];split
  . rename_i hn;refine IN hF.pF ?_ ?_ fun x hx=>hF.kr x (qf hx)
    . rcases hF.tb with e|e
      . left;simp only;rw [e];rfl
      exact IP e n
    have:=hF.kl;simp only;rw [List.length_eraseIdx_of_lt (by omega),List.length_eraseIdx_of_lt (by omega)];omega
  exact h
 |find n=>
  simp only [dQ];split
  . rename_i hn;obtain ⟨g1,g2,g3⟩:=Qd hn;exact IN hF.pF hF.tb g2 g3
  exact h
 |_=>exact h
theorem VF {d:Dk} (h:k7 d=true) (c:C6):k7 (VC d c).1=true:=by
 unfold VC;split
 . split
   . exact VE h c
   exact h
 split<;>exact h
theorem VG {d:Dk} (h:k7 d=true) (l:lU):k7 (nZ d l).1=true:=by
 unfold nZ;split
 . exact VF h _
 exact h
theorem C7 (ls:List lU):∀i,k7 (eU (ls.take i)).1=true
 |0=>by rw [dt,yT];exact VD
 |i+1=>by
  by_cases h:i<ls.length
  . rw [tz h];exact VG (C7 ls i) _
  rw [cK (by omega),←cK (show ls.length<=i by omega)];exact C7 ls i
theorem vJ (ls:List lU):(eU ls).2.length=ls.length:=by
 have:∀(ls:List lU) p,(ls.foldl yS p).2.length=p.2.length+ls.length:=by
  intro ls;induction ls with
  |nil=>intro p;rfl
  |cons l ls ih=>intro p;rw [List.foldl_cons,ih,yS];simp;omega
 rw [eU,this];simp
theorem dkA {d:Dk} (hk:k7 d=true):Wg d/\d.a.length<=1048576/\(∀x∈d.a,x.length<=1048576)/\d.k.length<=1048576/\∀x∈d.k,x.length<=1048576:=by (have hF:=Yk hk;have ha1:d.a.length<=1048576:=(by have:=hF.al;omega);have ha2:∀x∈d.a,x.length<=1048576:=(fun x hx=>by have:=hF.ar x hx;omega);have hk1:d.k.length<=1048576:=(by have:=hF.al;have:=hF.kl;omega);have hk2:∀x∈d.k,x.length<=1048576:=(fun x hx=>by have:=hF.kn x hx;omega));exact ⟨hF,ha1,ha2,hk1,hk2⟩
theorem Qe (m:aK) (t:lL) (lim:Nat) (h:t.length<=1048576) (h2:∀x∈t,x.length<=1048576):
 Fn pG 116 [jM m t,eI lim] true (· = .aX [aR (gJ m t lim).1,eI (gJ m t lim).2.1,eI (gJ m t lim).2.2]):=by
 have h1:Fn pG 116 [jM m t,eI lim] true (· =lK m t lim):=Fn.nil (Fn.mono (zm m t lim h h2) fun x hx=>⟨_,hx,rfl⟩);exact Fn.nil (Fn.mono h1 fun x hx=>⟨_,by rw [hx];exact Gl m t lim,rfl⟩)
theorem Qf (m:aK) (t:lL) (lim:Nat) (h:t.length<=1048576) (h2:∀x∈t,x.length<=1048576):Fn pG 96 [jM m t,eI lim] false (· =lK m t lim):=by
 by_cases hl:lim<=4000
 . exact CV m t lim h h2 hl
 have hc:=BC m t lim h h2;have hne:kU m t lim≠0:=fun e=>hl (Gj e);have hz:(kU m t lim != 0)=true:=bne_iff_ne.2 hne;refine Fn.cf 21 [.tmp 4,.tmp 5,.tmp 6] func96 (hv:= ?_);unfold lK;rw [if_neg hne];simp -dsimp -implicitDefEqProofs only [go_sem];refine aa hc ?_;simp -dsimp -implicitDefEqProofs only [go_sem,hz]
theorem Qg (m:aK) (t:lL) (lim:Nat) (h:t.length<=1048576) (h2:∀x∈t,x.length<=1048576):
 Fn pG 96 [jM m t,eI lim] false (· = .aX [aR (gJ m t lim).1,eI (gJ m t lim).2.1,eI (gJ m t lim).2.2]):=
 Fn.yz (Fn.mono (Qf m t lim h h2) fun x hx=>⟨_,by rw [hx];exact Gl m t lim,rfl⟩)
theorem u7 (t:lL) (h:t.length<=1000) (h2:∀x∈t,x.length<=1048576):nQ pG 31 [aR t] ⟨1,false⟩ (t.map aQ):=by
 refine nQ.dK 21 [.tmp 2] func31 (hv:= ?_);simp -dsimp -implicitDefEqProofs only [go_sem];refine aj.up [0] [8,17,18,19] [5] t.length (fun _=>True) (fun i=>[(4,eI i),(3,.ref 5 0 0 i)]) (fun i=>[(5,.row 0 ⟨1,false⟩ (i==0) ((t.take i).map aQ))]) trivial ?_ rfl (fun i hi _=> ?_) (fun _=> ?_)
 . simp -dsimp -implicitDefEqProofs only [go_sem]
 . have gi:=get_some hi;have li:=aE hi;have ho:=s7 t[i] (h2 _ (List.getElem_mem hi));have e2:(t.take (i+1)).map aQ=(t.take i).map aQ++[aQ t[i]]:=by rw [List.take_succ_eq_append_getElem hi,List.map_append];rfl
   have hln:(t.take i).length=i:=by simp;omega
   have e0:(i+1==0)=false:=rfl;rw [e0,e2];clear e0 e2;generalize t.take i=F at*;generalize t[i]=x at*;have tF:(F.map aQ).take i=F.map aQ:=cK (by simp;omega);simp -dsimp -implicitDefEqProofs only [pz,cF,bf,bu,↓reduceIte,cj];simp -dsimp -implicitDefEqProofs only [go_sem,gi,li];((with_reducible and_intros);all_goals try (omega));refine av ho (by simp [ax,an,aG]) ?_;simp -dsimp -implicitDefEqProofs only [go_sem];refine .inr ⟨by omega,by omega,(by cases i with|zero=>exact .inr rfl|succ i=>exact .inl rfl),⟨by omega,by omega⟩,?_⟩;simp -dsimp -implicitDefEqProofs only [go_sem,tF];(all_goals try (exact rfl))
 rw [List.take_length];simp -dsimp -implicitDefEqProofs only [pz,cF,bf,bu,↓reduceIte,cj];simp -dsimp -implicitDefEqProofs only [go_sem,aA];refine .inr ⟨5,0,by simp,?_⟩;cases t with
 |nil=>exact .inr ⟨rfl,rfl⟩
 |cons x r=>exact .inl rfl
theorem dX.mk {m:Mem} {l v n:Nat} {ys:lA} (hn:n=ys.length) (h:ah m l=some (.row v ⟨1,false⟩ true ys)):dX m (.ref l v 0 n) ys (some l):=by subst hn;exact .ref l v ys h
theorem o4 {Lb La Lc:Nat} {post:lA->lA->lA->Prop} {m:Mem} {x1 x2 x3 x4 x5 xa xc:AV} {ya yc:lA} {oa oc:Option Nat} (h1:ah m Lb=some (.box 0 [x1,x2,x3,x4,x5,xa,xc])) (hl:aq [x1,x2,x3,x4,x5]=[]) (ha:dX m xa ya oa) (hc:dX m xc yc oc)
 (hn:∀l,oa=some l->oc≠some l) (h2:∀l,oa=some l->l=La\/l<1000000000) (h3:∀l,oc=some l->l=Lc\/l<1000000000) (hp:post [x1,x2,x3,x4,x5] ya yc):WJ Lb La Lc post m:=
 ⟨[x1,x2,x3,x4,x5],xa,xc,ya,yc,oa,oc,h1,hl,ha,hc,hn,h2,h3,hp⟩
theorem gQ (Lb La Lc va vk:Nat) (cs ya yc:lA):uJ Lb La Lc va vk cs ya yc=[(Lb,.box 0 (cs++[.ref La va 0 ya.length,.ref Lc vk 0 yc.length])),(La,.row va ⟨1,false⟩ true ya),(Lc,.row vk ⟨1,false⟩ true yc)]:=rfl
abbrev Y0 (m:aK):lA:=[eI m.af,eI m.ao,eI m.step,eI m.same,eI m.least]
abbrev zn (va vk:Nat) (d:Dk):Mem:=uJ 1900000006 1900000500 1900000501 va vk (Y0 d.m) (d.a.map aQ) (d.k.map aQ)
def Zi (r0:AV) (d:Dk) (r:AV) (cs ya yc:lA):Prop:=r=r0/\cs=Y0 d.m/\ya=d.a.map aQ/\yc=d.k.map aQ
theorem fK.dk {P:Program} {f:FuncId} {va vk:Nat} {d d':Dk} {xs:lA} {r0:AV} (h:fK P f (zn va vk d) xs (fun r m'=>∃cs ya yc,aq cs=[]/\m'=uJ 1900000006 1900000500 1900000501 (va+1) (vk+1) cs ya yc/\Zi r0 d' r cs ya yc)):
 fK P f (zn va vk d) xs (fun r m'=>r=r0/\m'=zn (va+1) (vk+1) d'):=
 h.mono fun r m' ⟨cs,ya,yc,_,h2,h3,h4,h5,h6⟩=>⟨h3,by rw [h2,h4,h5,h6]⟩
theorem Qh {t:lL} (h:iF t=true):∀x∈t,0<x.length:=fun x hx=>by have h1:=tB h x hx;simp only [gm,uq0,beq_iff_eq,decide_eq_true_eq] at h1;omega
theorem Wg.SY {d:Dk} (h:Wg d):∀x∈d.a,0<x.length/\x.length<=1048576:=fun x hx=>by
 have:=h.ar x hx;rcases h.tb with e|e
 . rw [e] at hx;cases hx
 exact ⟨Qh e x hx,by omega⟩
theorem Wg.VH {d:Dk} (h:Wg d):∀x∈d.k,0<x.length/\x.length<=1048576:=fun x hx=>by have:=(gq (h.kr x hx)).1;have:=h.num;omega
theorem Qi (d:Dk) (hk:k7 d=true) (x y:lU) (hx:x.length<=1000000) (hy:y.length<=1000000) (va vk:Nat):fK pG 113 (zn va vk d) [.ptr 1900000006 0 0 0,eS x,eS y] (fun r m'=>r=eI (vw d x y).2/\m'=zn (va+1) (vk+1) (vw d x y).1):=by
 refine fK.dk (fK.sU 76 [.tmp 6] func113 rfl rfl rfl rfl rfl (oT rfl) (by decide) ?_);obtain ⟨hF,ha1,ha2,hk1,hk2⟩:=dkA hk;have hr:=yv d.m x (by omega);have hal:=hF.al;have hkl:=hF.kl;unfold vw;rw [gQ];by_cases hc:(j6 d.m x).2=0
 . have e0:((0:Int) != 0)=false:=rfl;rw [if_pos hc];rw [hc] at hr;have hKf:fault d.m (j6 d.m x).1=0:=by
    unfold j6 at hc ⊢;split at hc
    . rename_i h1;rw [if_pos h1];split at hc
      . rename_i h2;rw [if_pos h2];exact h2
      exact absurd hc (by decide)
    exact absurd hc (by decide)
   have hK1:=(gq (m:=d.m) (c:=(j6 d.m x).1) (beq_iff_eq.2 hKf)).1;have hK0:0<(j6 d.m x).1.length:=by have:=hF.num;omega
   generalize (j6 d.m x).1=K at*;have tK0:(K.map eI).take K.length=K.map eI:=cK (by simp);simp -dsimp -implicitDefEqProofs only [go_sem,uq4];refine aa hr ?_;simp -dsimp -implicitDefEqProofs only [go_sem,e0];refine aj.up [0,2,7,26] [46,47] [24] y.length (fun i=>(y.take i).all dO=true) (fun i=>[(9,.ref 24 0 0 i),(27,eI i)]) (fun i=>[(24,.row 0 ⟨1,false⟩ true ((bw (y.take i)).map eI))]) rfl ?_ rfl (fun i hi hI=> ?_) (fun hI=> ?_)
   . simp -dsimp -implicitDefEqProofs only [go_sem];all_goals first|rfl|skip
   . have hg:(y.getD i 0)=y[i]:=by rw [List.getD_eq_getElem?_getD,List.getElem?_eq_getElem hi];rfl
     have hb:=(y[i]).toNat_lt;have cR:=dw dO y i hi;have hno:=fun h=>gL (p:=dO) hi h;have hdd:=Is y[i];have htk:bw (y.take (i+1))=bw (y.take i)++[(y[i].toNat:Int)-48]:=by rw [List.take_succ_eq_append_getElem hi,bw,List.map_append];rfl
     have hln:(bw (y.take i)).length=i:=by rw [c6,List.length_take];omega
     rw [htk,List.map_append,List.map_singleton];clear htk;generalize bw (y.take i)=K2 at*;have tK:List.take i (K2.map eI)=K2.map eI:=cK (by simp [hln]);generalize y[i]=b at*;rcases d1:decide ((b.toNat:Int)<48) with _|_
     . rcases d2:decide ((b.toNat:Int)>57) with _|_
       . have e1:=of_decide_eq_false d1;simp -dsimp -implicitDefEqProofs only [pz,cF,bf,bu,↓reduceIte,cj];simp -dsimp -implicitDefEqProofs only [go_sem,aE hi,hg,d1,d2,tK];((with_reducible and_intros);all_goals try first|omega|(refine ⟨?_,?_⟩<;>omega)|exact rfl);all_goals first|(rw [cR,hI];show dO b=true;rw [dO,hdd,d1,d2];rfl)|skip
       have hz:=hno (by rw [dO,hdd,d1,d2];rfl);rw [hz,if_neg (by simp)];simp -dsimp -implicitDefEqProofs only [pz,cF,bf,bu,↓reduceIte,cj];simp -dsimp -implicitDefEqProofs only [go_sem,aE hi,hg,d1,d2];((with_reducible and_intros);all_goals try (omega));((refine o4 (oa:=some 1900000500) (oc:=some 1900000501) rfl ?_ (dX.mk ?_ rfl) (dX.mk ?_ rfl) ?_ ?_ ?_ ⟨rfl,rfl,?_,?_⟩);all_goals first|exact rfl|(simp;done)|skip)
     have hz:=hno (by rw [dO,hdd,d1];rfl);rw [hz,if_neg (by simp)];simp -dsimp -implicitDefEqProofs only [pz,cF,bf,bu,↓reduceIte,cj];simp -dsimp -implicitDefEqProofs only [go_sem,aE hi,hg,d1];((with_reducible and_intros);all_goals try (omega));((refine o4 (oa:=some 1900000500) (oc:=some 1900000501) rfl ?_ (dX.mk ?_ rfl) (dX.mk ?_ rfl) ?_ ?_ ?_ ⟨rfl,rfl,?_,?_⟩);all_goals first|exact rfl|(simp;done)|skip)
   rw [List.take_length] at hI ⊢;rw [hI,if_pos rfl];have hln:=c6 y;generalize bw y=R at*;have tR:List.take y.length (R.map eI)=R.map eI:=cK (by simp [hln])
   have hd:=L0 d.m (d.a++[R]) (d.k++[K]) (by simp;omega) (fun z hz=>by
    rcases List.mem_append.1 hz with hz|hz
    . exact ha2 z hz
    . rw [uq9] at hz;subst hz;omega) (by simp;omega) (fun z hz=>by
    rcases List.mem_append.1 hz with hz|hz
    . exact hk2 z hz
    rw [uq9] at hz;subst hz;have:=hF.num;omega)
   simp only [WV,aR,List.map_append,uq7,uq8] at hd;have t3:(d.a.map aQ++[aQ R]).take (d.a.length+1)=d.a.map aQ++[aQ R]:=cK (by simp);have t4:(d.k.map aQ++[aQ K]).take (d.k.length+1)=d.k.map aQ++[aQ K]:=cK (by simp);have t1:(d.a.map aQ).take d.a.length=d.a.map aQ:=cK (by simp);have t2:(d.k.map aQ).take d.k.length=d.k.map aQ:=cK (by simp);rcases hdk:gM d.m (d.a++[R]) (d.k++[K]) with _|_
   . rw [hdk] at hd;rw [if_neg (by simp)];have hl1:=fC d.a (by omega) hF.SY;have hl2:=fC d.k (by omega) hF.VH;simp -dsimp -implicitDefEqProofs only [pz,cF,bf,bu,↓reduceIte,cj];simp -dsimp -implicitDefEqProofs only [go_sem,aA];refine aj.draw mixed rfl ?_;simp -dsimp -implicitDefEqProofs only [go_sem,t1];refine uK hl1 (by decide) ?_ (by decide) ?_
     . simp -dsimp -implicitDefEqProofs only [go_sem,t1]
     simp -dsimp -implicitDefEqProofs only [go_sem,t1,tR,uq4];refine ⟨by omega,.inr ⟨by omega,?_⟩⟩;refine uK hl2 (by decide) ?_ (by decide) ?_
     . simp -dsimp -implicitDefEqProofs only [go_sem,t2]
     simp -dsimp -implicitDefEqProofs only [go_sem,t2,tK0,uq4];refine .inr ⟨by omega,?_⟩;simp -dsimp -implicitDefEqProofs only [go_sem,t3,t4];((with_reducible and_intros);all_goals try (exact rfl));refine aa hd ?_;simp -dsimp -implicitDefEqProofs only [go_sem];((refine o4 (oa:=some 1900000500) (oc:=some 1900000501) rfl ?_ (dX.mk ?_ rfl) (dX.mk ?_ rfl) ?_ ?_ ?_ ⟨rfl,rfl,?_,?_⟩);all_goals first|exact rfl|(simp;done)|skip)
   rw [hdk] at hd;rw [if_pos rfl];have hl1:=fC d.a (by omega) hF.SY;have hl2:=fC d.k (by omega) hF.VH;have eS1:∀u,(d.a.map aQ++[AV.val u]).set d.a.length (.arr ⟨1,false⟩ (R.map eI))=d.a.map aQ++[aQ R]:=fun u=>by rw [List.set_append_right _ _ (by simp)];simp
   have eS2:∀u,(d.k.map aQ++[AV.val u]).set d.k.length (.arr ⟨1,false⟩ (K.map eI))=d.k.map aQ++[aQ K]:=fun u=>by rw [List.set_append_right _ _ (by simp)];simp
   have hy0:0<y.length:=by have hF2:=Yk (d:=⟨d.m,d.a++[R],d.k++[K]⟩) hdk;have:=(hF2.SY R (by simp)).1;omega
   simp -dsimp -implicitDefEqProofs only [pz,cF,bf,bu,↓reduceIte,cj];simp -dsimp -implicitDefEqProofs only [go_sem,aA];refine aj.known 9 24 0 y.length ⟨1,false⟩ _ rfl (by decide) rfl (by simp [hln]) hy0 (by decide) fun u1=> ?_;refine aj.known 7 19000 0 K.length ⟨1,false⟩ _ rfl (by decide) rfl (by simp) hK0 (by decide) fun u2=> ?_;refine aj.U9 ?_;refine aj.draw mixed rfl ?_;simp -dsimp -implicitDefEqProofs only [go_sem,t1];refine ak hl1 ?_;simp -dsimp -implicitDefEqProofs only [go_sem,t1,uq4];((with_reducible and_intros);all_goals try (omega));refine ak hl2 ?_;simp -dsimp -implicitDefEqProofs only [go_sem,t2,uq4];((with_reducible and_intros);all_goals try first|omega|exact rfl);refine Go.Vc.hk.back 58000 1 d.a.length 24 0 _ _ _ u1 (by decide) rfl (by simp) rfl ?_;refine Go.Vc.hk.back 66000 1 d.k.length 19000 0 _ _ _ u2 (by decide) rfl (by simp) rfl ?_;rw [eS1 u1,eS2 u2];refine Go.Vc.hk.go ?_;simp -dsimp -implicitDefEqProofs only [go_sem,t3,t4];refine aa hd ?_;simp -dsimp -implicitDefEqProofs only [go_sem];((refine o4 (oa:=some 58000) (oc:=some 66000) rfl ?_ (dX.mk ?_ rfl) (dX.mk ?_ rfl) ?_ ?_ ?_ ⟨rfl,rfl,?_,?_⟩);all_goals first|exact rfl|(simp;done)|skip)
 rw [if_neg hc];have e0:((j6 d.m x).2 != 0)=true:=bne_iff_ne.2 hc;generalize j6 d.m x=K at*;simp -dsimp -implicitDefEqProofs only [go_sem,uq4];refine aa hr ?_;simp -dsimp -implicitDefEqProofs only [go_sem,e0];((refine o4 (oa:=some 1900000500) (oc:=some 1900000501) rfl ?_ (dX.mk ?_ rfl) (dX.mk ?_ rfl) ?_ ?_ ?_ ⟨rfl,rfl,?_,?_⟩);all_goals first|exact rfl|(simp;done)|skip)
theorem B2 {d:Dk} (hk:k7 d=true):(mI d.m d.a d.k).length<=1000:=by
 unfold mI;split
 . rename_i hc;obtain ⟨h1,h2⟩:=ik hc;have:=iT h1;have:=(dH h2).1;have h:=kv d.m d.a d.k d.k.length;have h3:d.k.length*(d.a.getD 0 []).length<=10*12:=Nat.mul_le_mul (by omega) (by omega);unfold gN;omega
 simp
theorem J1 {m:aK} {t ab:lL} (hd:bk m t ab=true):0<=nX m t ab/\nX m t ab<=1000000:=by
 obtain ⟨h1,h2⟩:=sZ hd;have hn:=iT h1;have key:∀l∈ay m t ab (t.getD 0 []).length,0<=fQ l/\fQ l<=7000:=by
  intro l hl;have hw:=tu (iX hd) _ l hl;obtain ⟨k,hk,rfl⟩:=lP hl;have hlk:=yM h1 h2 hk;simp only [fq,uq0,List.all_eq_true] at hlk;have hs:∀x∈bN m t ab k,1<=x.length:=fun x hx=>by have:=hlk.2 x hx;simp only [cN,uq0,decide_eq_true_eq] at this;omega
  refine ⟨?_,hw.2.2.2⟩;have:∀l:lL,(∀x∈l,1<=x.length)->0<=fQ l:=by
   intro l;induction l with
   |nil=>intro _;simp [fQ]
   |cons x r ih=>
    intro h;have e:fQ (x::r)=((x.length:Int)-1)+fQ r:=by simp [fQ]
    have:=ih fun y hy=>h y (List.mem_cons_of_mem _ hy);have:=h x (List.mem_cons_self ..);rw [e];omega
  exact this _ hs
 have sum:∀ls:List lL,(∀l∈ls,0<=fQ l/\fQ l<=7000)->0<=j0 ls/\j0 ls<=7000*ls.length:=by
  intro ls;induction ls with
  |nil=>intro _;simp [j0]
  |cons x r ih=>
   intro h;have e:j0 (x::r)=fQ x+j0 r:=by simp [j0]
   have:=ih fun y hy=>h y (List.mem_cons_of_mem _ hy);have:=h x (List.mem_cons_self ..);rw [e,uq3];omega
 have:=sum _ key;rw [dM] at this;unfold nX;omega
theorem Gn {m:aK} {t ab:lL} {g:lI} (h:g∈yJ m t ab):bk m t ab=true/\aY m=true/\fault m g=0:=by
 unfold yJ at h;split at h
 . rename_i hd;have hF:=iX hd;have:=hF.num;exact ⟨hd,hF.pF,qc.fault (kg (by omega) (JW _ _ _ _ g h))⟩
 cases h
theorem B3 (us:List Value) (h:us.length=7) (h1:∀u,u∈us->u.oneCell'=true):Fn pG 117 [.bq ⟨7,true⟩ [.agg (us.map .val)] 0 0] false (· = .agg ((us.map .val).take 6)):=by
 match us,h with
 | [u0,u1,u2,u3,u4,u5,u6],_=>
   simp only [uq7,uq8,dB,dt];refine Fn.cf 12 [.cell 2 110] func117 (hv:= ?_);simp -dsimp -implicitDefEqProofs only [go_sem];refine aj.draw mixed rfl ?_;simp -dsimp -implicitDefEqProofs only [go_sem];all_goals (first|exact rfl|skip)
theorem ky (d:Dk):Fn pG 117 [.bq ⟨7,true⟩ [mK d] 0 0] false (· =jM d.m d.a):=by refine Fn.cf 12 [.cell 2 110] func117 (hv:= ?_);simp -dsimp -implicitDefEqProofs only [go_sem];refine aj.draw mixed rfl ?_;simp -dsimp -implicitDefEqProofs only [go_sem];all_goals (first|exact rfl|skip)
theorem IQ (d:Dk) (hk:k7 d=true):Fn pG 126 [.bq ⟨7,true⟩ [mK d] 0 0,eS iW] true (· = .aX [eS (bY [] d .M1).1,eI (bY [] d .M1).2]):=by
 obtain ⟨hF,ha1,ha2,hk1,hk2⟩:=dkA hk;have hs:=ky d;have hq:=tn d.m d.a d.k ha1 ha2 hk1 hk2;have hn:=B2 hk;have ht:=kV (n:=((mI d.m d.a d.k).length:Int)) (by unfold km;omega);have w1:decide (iW=[102,97,108,115,101])=true:=by decide
 simp only [bY];generalize mI d.m d.a d.k=L at*;generalize bS d.m d.a d.k=c at*;refine Fn.au 63 [.tmp 4,.tmp 5] func126 (hv:= ?_);simp -dsimp -implicitDefEqProofs only [go_sem,w1];refine aj.draw mixed rfl ?_;simp -dsimp -implicitDefEqProofs only [go_sem];refine aH hs (by simp [ax,an,aG]) ?_;simp -dsimp -implicitDefEqProofs only [go_sem];refine aH hq (by simp [ax,an,aq,aG]) ?_;simp -dsimp -implicitDefEqProofs only [go_sem];((with_reducible and_intros);all_goals try (exact rfl));refine aa ht ?_;simp -dsimp -implicitDefEqProofs only [go_sem]
theorem zo (d:Dk) (hk:k7 d=true):Fn pG 126 [.bq ⟨7,true⟩ [mK d] 0 0,eS eW] true (· = .aX [eS (bY [] d .cg).1,eI (bY [] d .cg).2]):=by
 obtain ⟨hF,ha1,ha2,hk1,hk2⟩:=dkA hk;have hs:=ky d;have hq:=yI d.m d.a d.k ha1 ha2 hk1 hk2;have hn:=qM hF.pF d.a d.k;have hb:0<=(if bk d.m d.a d.k=true then ((cg d.m d.a d.k).length:Int) else 0)/\(if bk d.m d.a d.k=true then ((cg d.m d.a d.k).length:Int) else 0)<=262144:=by split<;>omega
 have ht:=kV (n:=if bk d.m d.a d.k=true then ((cg d.m d.a d.k).length:Int) else 0) (by unfold km;omega);have w1:decide (eW=[102,97,108,115,101])=false:=by decide
 have w2:decide (eW=[103,104,111,115,116,115])=true:=by decide
 simp only [bY];generalize (if bk d.m d.a d.k=true then ((cg d.m d.a d.k).length:Int) else 0)=L at*;generalize (if bk d.m d.a d.k=true then (0:Int) else 1)=c at*;refine Fn.au 63 [.tmp 4,.tmp 5] func126 (hv:= ?_);simp -dsimp -implicitDefEqProofs only [go_sem,w1,w2];refine aj.draw mixed rfl ?_;simp -dsimp -implicitDefEqProofs only [go_sem];refine aH hs (by simp [ax,an,aG]) ?_;simp -dsimp -implicitDefEqProofs only [go_sem];refine ak hq ?_;simp -dsimp -implicitDefEqProofs only [go_sem];((with_reducible and_intros);all_goals try (exact rfl));refine aa ht ?_;simp -dsimp -implicitDefEqProofs only [go_sem]
theorem C8 (d:Dk) (hk:k7 d=true):Fn pG 126 [.bq ⟨7,true⟩ [mK d] 0 0,eS fP] true (· = .aX [eS (bY [] d .count).1,eI (bY [] d .count).2]):=by
 obtain ⟨hF,ha1,ha2,hk1,hk2⟩:=dkA hk;have hq:=FR d.m;have hn:=qK hF.pF;have hb:0<=(if aY d.m=true then iG d.m else 0)/\(if aY d.m=true then iG d.m else 0)<=262144:=by split<;>omega
 have ht:=kV (n:=if aY d.m=true then iG d.m else 0) (by unfold km;omega);have w1:decide (fP=[102,97,108,115,101])=false:=by decide
 have w2:decide (fP=[103,104,111,115,116,115])=false:=by decide
 have w3:decide (fP=[99,111,117,110,116])=true:=by decide
 simp only [bY];generalize (if aY d.m=true then iG d.m else 0)=L at*;generalize (if aY d.m=true then (0:Int) else 1)=c at*;refine Fn.au 63 [.tmp 4,.tmp 5] func126 (hv:= ?_);simp -dsimp -implicitDefEqProofs only [go_sem,w1,w2,w3];refine aa hq ?_;simp -dsimp -implicitDefEqProofs only [go_sem];refine aa ht ?_;simp -dsimp -implicitDefEqProofs only [go_sem]
theorem zp (d:Dk) (hk:k7 d=true):Fn pG 126 [.bq ⟨7,true⟩ [mK d] 0 0,eS dj] true (· = .aX [eS (bY [] d .j3).1,eI (bY [] d .j3).2]):=by
 obtain ⟨hF,ha1,ha2,hk1,hk2⟩:=dkA hk;have hs:=ky d;have hq:=vu d.m d.a d.k ha1 ha2 hk1 hk2;have hb:0<=(if bk d.m d.a d.k=true then nX d.m d.a d.k else 0)/\(if bk d.m d.a d.k=true then nX d.m d.a d.k else 0)<=1000000:=by
  split
  . rename_i h;exact J1 h
  omega
 have ht:=kV (n:=if bk d.m d.a d.k=true then nX d.m d.a d.k else 0) (by unfold km;omega);have w1:decide (dj=[102,97,108,115,101])=false:=by decide
 have w2:decide (dj=[103,104,111,115,116,115])=false:=by decide
 have w3:decide (dj=[99,111,117,110,116])=false:=by decide
 have w4:decide (dj=[119,97,102,101,114,115])=true:=by decide
 simp only [bY];generalize (if bk d.m d.a d.k=true then nX d.m d.a d.k else 0)=L at*;generalize (if bk d.m d.a d.k=true then (0:Int) else 1)=c at*;refine Fn.au 63 [.tmp 4,.tmp 5] func126 (hv:= ?_);simp -dsimp -implicitDefEqProofs only [go_sem,w1,w2,w3,w4];refine aj.draw mixed rfl ?_;simp -dsimp -implicitDefEqProofs only [go_sem];refine aH hs (by simp [ax,an,aG]) ?_;simp -dsimp -implicitDefEqProofs only [go_sem];refine ak hq ?_;simp -dsimp -implicitDefEqProofs only [go_sem];((with_reducible and_intros);all_goals try (exact rfl));refine aa ht ?_;simp -dsimp -implicitDefEqProofs only [go_sem]
theorem vK (d:Dk) (w:lU) (c:C6) (hw:w≠jc/\w≠dr/\w≠dY/\w≠dW) (hq:Fn pG 126 [.bq ⟨7,true⟩ [mK d] 0 0,eS w] true (· = .aX [eS (bY [] d c).1,eI (bY [] d c).2])):
 Fn pG 85 [.bq ⟨7,true⟩ [mK d] 0 0,lZ [w],aQ []] true (· = .aX [eS (bY [] d c).1,eI (bY [] d c).2]):=by
 have w1:decide (w=[108,111,99,107])=false:=dF hw.1;have w2:decide (w=[111,112,101,110,115])=false:=dF hw.2.1;have w3:decide (w=[119,111,114,115,116])=false:=dF hw.2.2.1;have w4:decide (w=[115,116,97,109,112])=false:=dF hw.2.2.2;generalize bY [] d c=q at*;refine Fn.au 153 [.tmp 6,.tmp 7] func85 (hv:= ?_);simp -dsimp -implicitDefEqProofs only [go_sem,w1,w2,w3,w4,uq7,uq8];((with_reducible and_intros);all_goals try (omega));refine aa hq ?_;simp -dsimp -implicitDefEqProofs only [go_sem]
theorem IS (d:Dk) (hk:k7 d=true) (x:lU) (n:Nat) (hn:n<=9999999999999):Fn pG 85 [.bq ⟨7,true⟩ [mK d] 0 0,lZ [jc,x],aQ [n]] true (· = .aX [eS (bY [] d (.lock n)).1,eI (bY [] d (.lock n)).2]):=by
 obtain ⟨hF,ha1,ha2,hk1,hk2⟩:=dkA hk;have hs:=ky d;have hq:=IE d.m d.a d.k ha1 ha2 hk1 hk2;have w1:decide (jc=[108,111,99,107])=true:=by decide
 simp only [bY];by_cases hc:bS d.m d.a d.k=0
 . obtain ⟨h1,h2⟩:=ik hc;rw [if_pos hc] at hq ⊢;rw [hc] at hq;have e0:((0:Int) != 0)=false:=rfl;have hll:=dM d.m d.a d.k (d.a.getD 0 []).length;by_cases hl:n<(d.a.getD 0 []).length
   . rw [if_pos hl];have hg:=jO d.m d.a d.k hl;have h8:∀x∈bN d.m d.a d.k n,x.length<=8:=fun x hx=>by
      have:=iB d.m d.a d.k n x hx;have:=hF.num;omega
     have hp:=Gc d.m (bN d.m d.a d.k n) hF.pF (yM h1 h2 hl) h8;have dl:decide ((n:Int)≥((d.a.getD 0 []).length:Int))=false:=dF (by omega);generalize pO (pins d.m (bN d.m d.a d.k n))=T at*;have hlx:n<(ay d.m d.a d.k (d.a.getD 0 []).length).length:=by omega
     generalize bN d.m d.a d.k n=lk at*;generalize ay d.m d.a d.k (d.a.getD 0 []).length=LL at*;generalize (d.a.getD 0 []).length=D at*;subst hll;refine Fn.au 153 [.tmp 6,.tmp 7] func85 (hv:= ?_);simp -dsimp -implicitDefEqProofs only [go_sem,w1,uq7,uq8];((with_reducible and_intros);all_goals try (omega));refine aj.draw mixed rfl ?_;simp -dsimp -implicitDefEqProofs only [go_sem];refine aH hs (by simp [ax,an,aG]) ?_;simp -dsimp -implicitDefEqProofs only [go_sem];refine aH hq (by simp [ax,an,aq,aG]) ?_;simp -dsimp -implicitDefEqProofs only [go_sem,e0,uq7,uq8];((with_reducible and_intros);all_goals try first|omega|exact rfl);all_goals try simp -dsimp -implicitDefEqProofs only [go_sem,dl]
     refine aj.draw mixed rfl ?_;simp -dsimp -implicitDefEqProofs only [go_sem,hg,uq7,uq8];((with_reducible and_intros);all_goals try (omega));refine ak hp ?_;simp -dsimp -implicitDefEqProofs only [go_sem];all_goals (first|exact rfl|skip)
   rw [if_neg hl];have dl:decide ((n:Int)≥((d.a.getD 0 []).length:Int))=true:=dT (by omega);generalize ay d.m d.a d.k (d.a.getD 0 []).length=LL at*;generalize (d.a.getD 0 []).length=D at*;subst hll;refine Fn.au 153 [.tmp 6,.tmp 7] func85 (hv:= ?_);simp -dsimp -implicitDefEqProofs only [go_sem,w1,uq7,uq8];((with_reducible and_intros);all_goals try (omega));refine aj.draw mixed rfl ?_;simp -dsimp -implicitDefEqProofs only [go_sem];refine aH hs (by simp [ax,an,aG]) ?_;simp -dsimp -implicitDefEqProofs only [go_sem];refine aH hq (by simp [ax,an,aq,aG]) ?_;simp -dsimp -implicitDefEqProofs only [go_sem,e0,uq7,uq8];((with_reducible and_intros);all_goals try first|omega|exact rfl);all_goals try simp -dsimp -implicitDefEqProofs only [go_sem,dl]
 rw [if_neg hc] at hq ⊢;have e0:(bS d.m d.a d.k != 0)=true:=bne_iff_ne.2 hc;generalize bS d.m d.a d.k=c at*;refine Fn.au 153 [.tmp 6,.tmp 7] func85 (hv:= ?_);simp -dsimp -implicitDefEqProofs only [go_sem,w1,uq7,uq8];((with_reducible and_intros);all_goals try (omega));refine aj.draw mixed rfl ?_;simp -dsimp -implicitDefEqProofs only [go_sem];refine aH hs (by simp [ax,an,aG]) ?_;simp -dsimp -implicitDefEqProofs only [go_sem];refine aH hq (by simp [ax,an,aq,aG]) ?_;simp -dsimp -implicitDefEqProofs only [go_sem,e0];all_goals (first|exact rfl|skip)
theorem Gp (d:Dk) (hk:k7 d=true) (x:lU) (hx:x.length<=1048576):Fn pG 85 [.bq ⟨7,true⟩ [mK d] 0 0,lZ [dr,x],aQ []] true (· = .aX [eS (bY [] d (.opens x)).1,eI (bY [] d (.opens x)).2]):=by
 obtain ⟨hF,ha1,ha2,hk1,hk2⟩:=dkA hk;have hs:=ky d;have hr:=Fn.shared (yv d.m x hx);have w1:decide (dr=[108,111,99,107])=false:=by decide
 have w2:decide (dr=[111,112,101,110,115])=true:=by decide
 simp only [bY];by_cases hc:(j6 d.m x).2=0
 . have hkl:(j6 d.m x).1.length<=1048576:=by
    unfold j6;split
    . split
      . rw [c6];exact hx
      simp
    simp
   have hq:=Fn.shared (yB d.m d.a d.k ha1 ha2 hk1 hk2 (j6 d.m x).1 hkl);have hin:=PX (m:=d.m) (t:=d.a) (ab:=d.k) (c:=(j6 d.m x).1);rw [if_pos hc];rw [hc] at hr;have e0:((0:Int) != 0)=false:=rfl;generalize (j6 d.m x).1=K at*;generalize BM d.m d.a d.k K=D at*;obtain ⟨D1,D2⟩:=D;simp only at hq hin ⊢;by_cases h2:D2=0
   . rw [if_pos h2];subst h2;have hl:=Iy D1 (by omega) hin.2;refine Fn.au 153 [.tmp 6,.tmp 7] func85 (hv:= ?_);simp -dsimp -implicitDefEqProofs only [go_sem,w1,w2,uq7,uq8];((with_reducible and_intros);all_goals try (omega));refine aj.draw mixed rfl ?_;simp -dsimp -implicitDefEqProofs only [go_sem];((with_reducible and_intros);all_goals try (omega));refine aH hr (by simp [ax,an,aq,aG]) ?_;simp -dsimp -implicitDefEqProofs only [go_sem,e0];((with_reducible and_intros);all_goals try (exact rfl));refine aj.draw mixed rfl ?_;simp -dsimp -implicitDefEqProofs only [go_sem];refine aH hs (by simp [ax,an,aG]) ?_;simp -dsimp -implicitDefEqProofs only [go_sem];refine aH hq (by simp [ax,an,aq,aG]) ?_;simp -dsimp -implicitDefEqProofs only [go_sem,e0];((with_reducible and_intros);all_goals try (exact rfl));refine aa hl ?_;simp -dsimp -implicitDefEqProofs only [go_sem]
   rw [if_neg h2];have e1:(D2 != 0)=true:=bne_iff_ne.2 h2;refine Fn.au 153 [.tmp 6,.tmp 7] func85 (hv:= ?_);simp -dsimp -implicitDefEqProofs only [go_sem,w1,w2,uq7,uq8];((with_reducible and_intros);all_goals try (omega));refine aj.draw mixed rfl ?_;simp -dsimp -implicitDefEqProofs only [go_sem];((with_reducible and_intros);all_goals try (omega));refine aH hr (by simp [ax,an,aq,aG]) ?_;simp -dsimp -implicitDefEqProofs only [go_sem,e0];((with_reducible and_intros);all_goals try (exact rfl));refine aj.draw mixed rfl ?_;simp -dsimp -implicitDefEqProofs only [go_sem];refine aH hs (by simp [ax,an,aG]) ?_;simp -dsimp -implicitDefEqProofs only [go_sem];refine aH hq (by simp [ax,an,aq,aG]) ?_;simp -dsimp -implicitDefEqProofs only [go_sem,e1];all_goals (first|exact rfl|skip)
 rw [if_neg hc];have e0:((j6 d.m x).2 != 0)=true:=bne_iff_ne.2 hc;generalize j6 d.m x=K at*;refine Fn.au 153 [.tmp 6,.tmp 7] func85 (hv:= ?_);simp -dsimp -implicitDefEqProofs only [go_sem,w1,w2,uq7,uq8];((with_reducible and_intros);all_goals try (omega));refine aj.draw mixed rfl ?_;simp -dsimp -implicitDefEqProofs only [go_sem];((with_reducible and_intros);all_goals try (omega));refine aH hr (by simp [ax,an,aq,aG]) ?_;simp -dsimp -implicitDefEqProofs only [go_sem,e0];(all_goals try (exact rfl))
theorem Gq (d:Dk) (hk:k7 d=true):Fn pG 85 [.bq ⟨7,true⟩ [mK d] 0 0,lZ [dY],aQ []] true (· = .aX [eS (bY [] d .oZ).1,eI (bY [] d .oZ).2]):=by
 obtain ⟨hF,ha1,ha2,hk1,hk2⟩:=dkA hk;have hs:=ky d;have hq:Fn pG 123 [jM d.m d.a,aR d.k,eI 1] false (· = .aX [aR (yJ d.m d.a d.k),eI (if bk d.m d.a d.k=true then 0 else 1)]):=Fn.yz (Fn.mono (P3 d.m d.a d.k ha1 ha2 hk1 hk2) fun x hx=>⟨_,hx,rfl⟩);have hw:=fun g=>Gn (m:=d.m) (t:=d.a) (ab:=d.k) (g:=g);have hkt:=fun g hg=>Mq d.m g hg;have w1:decide (dY=[108,111,99,107])=false:=by decide
 have w2:decide (dY=[111,112,101,110,115])=false:=by decide
 have w3:decide (dY=[119,111,114,115,116])=true:=by decide
 simp only [bY];generalize yJ d.m d.a d.k=L at*;rcases L with _|⟨g,L⟩
 . have e1:(((([]:lL).length:Nat):Int)==0)=true:=rfl;rcases hdz:((if bk d.m d.a d.k=true then (0:Int) else 1) != 0) with _|_
   . generalize (if bk d.m d.a d.k=true then (0:Int) else 1)=c at*;refine Fn.au 153 [.tmp 6,.tmp 7] func85 (hv:= ?_);simp -dsimp -implicitDefEqProofs only [go_sem,w1,w2,w3,uq7,uq8];((with_reducible and_intros);all_goals try (omega));refine aj.draw mixed rfl ?_;simp -dsimp -implicitDefEqProofs only [go_sem];refine aH hs (by simp [ax,an,aG]) ?_;simp -dsimp -implicitDefEqProofs only [go_sem];refine aH hq (by simp [ax,an,aq,aG]) ?_;simp -dsimp -implicitDefEqProofs only [go_sem,hdz,uq8,uq5];(all_goals try (exact rfl))
   generalize (if bk d.m d.a d.k=true then (0:Int) else 1)=c at*;refine Fn.au 153 [.tmp 6,.tmp 7] func85 (hv:= ?_);simp -dsimp -implicitDefEqProofs only [go_sem,w1,w2,w3,uq7,uq8];((with_reducible and_intros);all_goals try (omega));refine aj.draw mixed rfl ?_;simp -dsimp -implicitDefEqProofs only [go_sem];refine aH hs (by simp [ax,an,aG]) ?_;simp -dsimp -implicitDefEqProofs only [go_sem];refine aH hq (by simp [ax,an,aq,aG]) ?_;simp -dsimp -implicitDefEqProofs only [go_sem,hdz,uq8];(all_goals try (exact rfl))
 obtain ⟨g1,g2,g3⟩:=hw g (by simp);have gl:g.length<=1048576:=by have:=(gq (m:=d.m) (c:=g) (beq_iff_eq.2 g3)).1;have:=hF.num;omega
 have hkg:=hkt g gl;have ek:W5 d.m g=(oX g,0):=by rw [W5,if_pos g2,if_pos g3]
 rw [ek] at hkg;rw [if_pos g1] at hq ⊢;have e0:((0:Int) != 0)=false:=rfl;have e1:((((L.length+1:Nat):Nat):Int)==0)=false:=by rw [beq_eq_false_iff_ne];omega
 clear hw hkt;refine Fn.au 153 [.tmp 6,.tmp 7] func85 (hv:= ?_);simp -dsimp -implicitDefEqProofs only [go_sem,w1,w2,w3,uq7,uq8];((with_reducible and_intros);all_goals try (omega));refine aj.draw mixed rfl ?_;simp -dsimp -implicitDefEqProofs only [go_sem];refine aH hs (by simp [ax,an,aG]) ?_;simp -dsimp -implicitDefEqProofs only [go_sem];refine aH hq (by simp [ax,an,aq,aG]) ?_;simp -dsimp -implicitDefEqProofs only [go_sem,e0,e1,uq7,uq3];((with_reducible and_intros);all_goals try (exact rfl));refine aj.draw mixed rfl ?_;simp -dsimp -implicitDefEqProofs only [go_sem,uq7,uq3];((with_reducible and_intros);all_goals try (omega));refine ak hkg ?_;simp -dsimp -implicitDefEqProofs only [go_sem];all_goals (first|exact rfl|skip)
theorem Gr (d:Dk) (hk:k7 d=true) (x y:lU) (n s:Nat) (hn:n<=9999999999999/\s<=9999999999999):Fn pG 85 [.bq ⟨7,true⟩ [mK d] 0 0,lZ [dW,x,y],aQ [n,s]] true (· = .aX [eS (bY [] d (.o1 n s)).1,eI (bY [] d (.o1 n s)).2]):=by
 obtain ⟨hF,ha1,ha2,hk1,hk2⟩:=dkA hk;have w1:decide (dW=[108,111,99,107])=false:=by decide
 have w2:decide (dW=[111,112,101,110,115])=false:=by decide
 have w3:decide (dW=[119,111,114,115,116])=false:=by decide
 have w4:decide (dW=[115,116,97,109,112])=true:=by decide
 simp only [bY];by_cases hl:n<d.k.length
 . rw [if_pos hl];have gn:=get_some hl;have ek:d.k.getD n []=d.k[n]:=by rw [List.getD_eq_getElem?_getD,gn];rfl
   rw [ek];have hq:=IC d.m d.k[n] 0 (s:Int) (hk2 _ (List.getElem_mem hl));have dl:decide ((n:Int)≥(d.k.length:Int))=false:=dF (by omega);generalize jZ d.m d.k[n] 0 (s:Int)=T at*;generalize d.k[n]=K at*;refine Fn.au 153 [.tmp 6,.tmp 7] func85 (hv:= ?_);simp -dsimp -implicitDefEqProofs only [go_sem,w1,w2,w3,w4,uq7,uq8];((with_reducible and_intros);all_goals try (omega));refine aj.draw mixed rfl ?_;simp -dsimp -implicitDefEqProofs only [go_sem];((with_reducible and_intros);all_goals try first|omega|exact rfl);all_goals try simp -dsimp -implicitDefEqProofs only [go_sem,dl]
   refine aj.draw mixed rfl ?_;simp -dsimp -implicitDefEqProofs only [go_sem,gn];((with_reducible and_intros);all_goals try (omega));refine ak hq ?_;simp -dsimp -implicitDefEqProofs only [go_sem];all_goals (first|exact rfl|skip)
 rw [if_neg hl];have dl:decide ((n:Int)≥(d.k.length:Int))=true:=dT (by omega);refine Fn.au 153 [.tmp 6,.tmp 7] func85 (hv:= ?_);simp -dsimp -implicitDefEqProofs only [go_sem,w1,w2,w3,w4,uq7,uq8];((with_reducible and_intros);all_goals try (omega));refine aj.draw mixed rfl ?_;simp -dsimp -implicitDefEqProofs only [go_sem];((with_reducible and_intros);all_goals try first|omega|exact rfl);all_goals try simp -dsimp -implicitDefEqProofs only [go_sem,dl]
theorem B4 {α β:Type} (f:α->β) (xs:List α) (n:Nat):(xs.map f).eraseIdx n=(xs.eraseIdx n).map f:=by
 apply List.ext_getElem?
 intro p;simp only [List.getElem?_eraseIdx,List.getElem?_map];split<;>rfl
theorem Gs (d:Dk) (hk:k7 d=true) (x1 x2 x3 x4 x5:lU) (n1 n2 n3 n4 n5:Nat) (va vk:Nat):fK pG 84 (zn va vk d) [.ptr 1900000006 0 0 0,lZ [gP,x1,x2,x3,x4,x5],aQ [n1,n2,n3,n4,n5]] (fun r m'=>r=eI (dQ d (.kX ⟨n1,n2,n3,n4,n5⟩)).2/\m'=zn (va+1) (vk+1) (dQ d (.kX ⟨n1,n2,n3,n4,n5⟩)).1):=by
 refine fK.dk (fK.sU 109 [.tmp 6] func84 rfl rfl rfl rfl rfl (oT rfl) (by decide) ?_);have hm:=eJ ⟨n1,n2,n3,n4,n5⟩;have w1:decide (gP=[109,97,107,101,114])=true:=by decide
 simp only [dQ];rw [gQ];rcases ko:aY ⟨n1,n2,n3,n4,n5⟩ with _|_
 . rw [ko] at hm;rw [if_neg (by simp)];simp -dsimp -implicitDefEqProofs only [go_sem,w1,uq4,uq7,uq8];((with_reducible and_intros);all_goals try (omega));refine aj.draw mixed rfl ?_;simp -dsimp -implicitDefEqProofs only [go_sem];((with_reducible and_intros);all_goals try first|omega|exact rfl);refine aa hm ?_;simp -dsimp -implicitDefEqProofs only [go_sem];((refine o4 (oa:=some 1900000500) (oc:=some 1900000501) rfl ?_ (dX.mk ?_ rfl) (dX.mk ?_ rfl) ?_ ?_ ?_ ⟨rfl,rfl,?_,?_⟩);all_goals first|exact rfl|(simp;done)|skip)
 rw [ko] at hm;rw [if_pos rfl];simp -dsimp -implicitDefEqProofs only [go_sem,w1,uq4,uq7,uq8];((with_reducible and_intros);all_goals try (omega));refine aj.draw mixed rfl ?_;simp -dsimp -implicitDefEqProofs only [go_sem];((with_reducible and_intros);all_goals try first|omega|exact rfl);refine aa hm ?_;simp -dsimp -implicitDefEqProofs only [go_sem];refine o4 (oa:=none) (oc:=none) rfl ?_ .nil .nil ?_ ?_ ?_ ⟨rfl,rfl,?_,?_⟩;all_goals first|exact rfl|(simp;done)|skip
theorem MN (d:Dk) (hk:k7 d=true) (x y:lU) (hx:x.length<=1000000) (hy:y.length<=1000000) (va vk:Nat):fK pG 84 (zn va vk d) [.ptr 1900000006 0 0 0,lZ [kW,x,y],aQ []] (fun r m'=>r=eI (dQ d (.key x y)).2/\m'=zn (va+1) (vk+1) (dQ d (.key x y)).1):=by
 refine fK.dk (fK.sU 109 [.tmp 6] func84 rfl rfl rfl rfl rfl (oT rfl) (by decide) ?_);have hq:=Qi d hk x y hx hy va vk;have w1:decide (kW=[109,97,107,101,114])=false:=by decide
 have w2:decide (kW=[107,101,121])=true:=by decide
 simp only [dQ];generalize vw d x y=q at*;rw [gQ];simp -dsimp -implicitDefEqProofs only [go_sem,w1,w2,uq4,uq7,uq8];((with_reducible and_intros);all_goals try (omega));refine aj.k9 7 mixed rfl ?_;simp -dsimp -implicitDefEqProofs only [dB,dt,uq1,uq2];simp -dsimp -implicitDefEqProofs only [go_sem];((with_reducible and_intros);all_goals try first|omega|exact rfl);refine cW hq ⟨⟨?_,?_⟩,?_,?_⟩ ?_
 . simp -dsimp -implicitDefEqProofs only [go_sem,kN]
 . simp -dsimp -implicitDefEqProofs only [go_sem,gQ,uq4];all_goals try (simp;done)
 . simp -dsimp -implicitDefEqProofs only [go_sem,gQ,uq4]
 . simp -dsimp -implicitDefEqProofs only [go_sem,kN];all_goals try (simp;done)
 rintro r m' ⟨hr,hm'⟩;rw [hr,hm'];simp only [zn,gQ];simp -dsimp -implicitDefEqProofs only [go_sem,uq4];((refine o4 (oa:=some 1900000500) (oc:=some 1900000501) rfl ?_ (dX.mk ?_ rfl) (dX.mk ?_ rfl) ?_ ?_ ?_ ⟨rfl,rfl,?_,?_⟩);all_goals first|exact rfl|(simp;done)|skip)
theorem IT (d:Dk) (hk:k7 d=true) (x:lU) (n:Nat) (hn:n<=9999999999999) (va vk:Nat):fK pG 84 (zn va vk d) [.ptr 1900000006 0 0 0,lZ [iD,x],aQ [n]] (fun r m'=>r=eI (dQ d (.drop n)).2/\m'=zn (va+1) (vk+1) (dQ d (.drop n)).1):=by
 refine fK.dk (fK.sU 109 [.tmp 6] func84 rfl rfl rfl rfl rfl (oT rfl) (by decide) ?_);obtain ⟨hF,ha1,ha2,hk1,hk2⟩:=dkA hk;have hi:=kO (n:Int) 0 ((d.k.length:Int)-1);have hal:=hF.al;have hkl:=hF.kl;have hl1:=fC d.a (by omega) hF.SY;have hl2:=fC d.k (by omega) hF.VH;have w1:decide (iD=[109,97,107,101,114])=false:=by decide
 have w2:decide (iD=[107,101,121])=false:=by decide
 have w3:decide (iD=[100,114,111,112])=true:=by decide
 simp only [dQ];rw [gQ];have t1:(d.a.map aQ).take d.a.length=d.a.map aQ:=cK (by simp);have t2:(d.k.map aQ).take d.k.length=d.k.map aQ:=cK (by simp);by_cases hl:n<d.k.length
 . rw [show bB (n:Int) 0 ((d.k.length:Int)-1)=true by simp only [bB,uq0,decide_eq_true_eq];omega] at hi;rw [if_pos hl];simp -dsimp -implicitDefEqProofs only [go_sem,w1,w2,w3,uq4,uq7,uq8];((with_reducible and_intros);all_goals try (omega));refine aj.draw mixed rfl ?_;simp -dsimp -implicitDefEqProofs only [go_sem];((with_reducible and_intros);all_goals try first|omega|(refine ⟨?_,?_⟩<;>omega));refine ak hi ?_;simp -dsimp -implicitDefEqProofs only [go_sem];((with_reducible and_intros);all_goals try first|omega|exact rfl);refine aj.draw mixed rfl ?_;simp -dsimp -implicitDefEqProofs only [go_sem,t1];refine ak hl1 ?_;simp -dsimp -implicitDefEqProofs only [go_sem,uq4];((with_reducible and_intros);all_goals try ((refine ⟨?_,?_⟩<;>omega)));refine xT (sh:=⟨1,false⟩) (zs:=[.slice none 0 0]) ⟨Tryz.f114,_,func114,by decide,rfl⟩ rfl (by simp) (by simp;omega) (by decide) rfl (by intro u hu;rw [uq9] at hu;subst hu;rfl) (fun w b cap cs e hb hcs b6 hle h1=> ?_) ?_
   . have h9:=uP w b cap n (n+1) (d.a.map aQ).length cs e hb hcs b6 rfl (by simp;omega) hle h1;simpa only [Nat.mul_one] using h9
   rw [B4,uq4];simp -dsimp -implicitDefEqProofs only [go_sem];refine ak hl2 ?_;simp -dsimp -implicitDefEqProofs only [go_sem,uq4];((with_reducible and_intros);all_goals try ((refine ⟨?_,?_⟩<;>omega)));refine xT (sh:=⟨1,false⟩) (zs:=[.slice none 0 0]) ⟨Tryz.f114,_,func114,by decide,rfl⟩ rfl (by simp) (by simp;omega) (by decide) rfl (by intro u hu;rw [uq9] at hu;subst hu;rfl) (fun w b cap cs e hb hcs b6 hle h1=> ?_) ?_
   . have h9:=uP w b cap n (n+1) (d.k.map aQ).length cs e hb hcs b6 rfl (by simp;omega) hle h1;simpa only [Nat.mul_one] using h9
   rw [B4,uq4];simp -dsimp -implicitDefEqProofs only [go_sem];((with_reducible and_intros);all_goals try (exact rfl));have el1:(d.a.eraseIdx n).length=d.a.length-1:=by rw [List.length_eraseIdx,if_pos (by omega)]
   have el2:(d.k.eraseIdx n).length=d.k.length-1:=by rw [List.length_eraseIdx,if_pos (by omega)]
   ((refine o4 (oa:=some 73000) (oc:=some 82000) rfl ?_ (dX.mk ?_ rfl) (dX.mk ?_ rfl) ?_ ?_ ?_ ⟨rfl,rfl,?_,?_⟩);all_goals first|exact rfl|(simp;done)|(rw [uq4];omega)|skip)
 rw [show bB (n:Int) 0 ((d.k.length:Int)-1)=false by rw [Bool.eq_false_iff];simp only [bB,ne_eq,uq0,decide_eq_true_eq];omega] at hi;rw [if_neg hl];simp -dsimp -implicitDefEqProofs only [go_sem,w1,w2,w3,uq4,uq7,uq8];((with_reducible and_intros);all_goals try (omega));refine aj.draw mixed rfl ?_;simp -dsimp -implicitDefEqProofs only [go_sem];((with_reducible and_intros);all_goals try first|omega|(refine ⟨?_,?_⟩<;>omega));refine ak hi ?_;simp -dsimp -implicitDefEqProofs only [go_sem];((with_reducible and_intros);all_goals try (exact rfl));((refine o4 (oa:=some 1900000500) (oc:=some 1900000501) rfl ?_ (dX.mk ?_ rfl) (dX.mk ?_ rfl) ?_ ?_ ?_ ⟨rfl,rfl,?_,?_⟩);all_goals first|exact rfl|(simp;done)|skip)
theorem IU (d:Dk) (hk:k7 d=true) (x:lU) (n:Nat) (hn:n<=9999999999999) (va vk:Nat):fK pG 84 (zn va vk d) [.ptr 1900000006 0 0 0,lZ [gT,x],aQ [n]] (fun r m'=>r=eI (dQ d (.find n)).2/\m'=zn (va+1) (vk+1) (dQ d (.find n)).1):=by
 refine fK.dk (fK.sU 109 [.tmp 6] func84 rfl rfl rfl rfl rfl (oT rfl) (by decide) ?_);obtain ⟨hF,ha1,ha2,hk1,hk2⟩:=dkA hk;have hal:=hF.al;have hq:=Qe d.m d.a n ha1 ha2;have w1:decide (gT=[109,97,107,101,114])=false:=by decide
 have w2:decide (gT=[107,101,121])=false:=by decide
 have w3:decide (gT=[100,114,111,112])=false:=by decide
 have w4:decide (gT=[102,105,110,100])=true:=by decide
 simp only [dQ];rw [gQ];have t1:(d.a.map aQ).take d.a.length=d.a.map aQ:=cK (by simp);generalize gJ d.m d.a n=q at*;by_cases hc:q.2.2=0
 . rw [if_pos hc];rw [hc] at hq;have e0:((0:Int) != 0)=false:=rfl;simp -dsimp -implicitDefEqProofs only [go_sem,w1,w2,w3,w4,uq4,uq7,uq8];((with_reducible and_intros);all_goals try (omega));refine aj.draw mixed rfl ?_;simp -dsimp -implicitDefEqProofs only [go_sem];refine uI 6 ?_ rfl ?_
   . exact fun us h1 h2=>B3 us h1 h2
   simp -dsimp -implicitDefEqProofs only [go_sem,dB,dt];((with_reducible and_intros);all_goals try (omega));refine ak hq ?_;simp -dsimp -implicitDefEqProofs only [go_sem,e0];((with_reducible and_intros);all_goals try (exact rfl));((refine o4 (oa:=some 1900000500) (oc:=some 99000) rfl ?_ (dX.mk ?_ rfl) (dX.mk ?_ rfl) ?_ ?_ ?_ ⟨rfl,rfl,?_,?_⟩);all_goals first|exact rfl|(simp;done)|skip)
 rw [if_neg hc];have e0:(q.2.2 != 0)=true:=bne_iff_ne.2 hc;simp -dsimp -implicitDefEqProofs only [go_sem,w1,w2,w3,w4,uq4,uq7,uq8];((with_reducible and_intros);all_goals try (omega));refine aj.draw mixed rfl ?_;simp -dsimp -implicitDefEqProofs only [go_sem];refine uI 6 ?_ rfl ?_
 . exact fun us h1 h2=>B3 us h1 h2
 simp -dsimp -implicitDefEqProofs only [go_sem,dB,dt];((with_reducible and_intros);all_goals try (omega));refine ak hq ?_;simp -dsimp -implicitDefEqProofs only [go_sem,e0];((with_reducible and_intros);all_goals try (exact rfl));((refine o4 (oa:=some 1900000500) (oc:=some 1900000501) rfl ?_ (dX.mk ?_ rfl) (dX.mk ?_ rfl) ?_ ?_ ?_ ⟨rfl,rfl,?_,?_⟩);all_goals first|exact rfl|(simp;done)|skip)
theorem IV (d:Dk) (hk:k7 d=true):Fn pG 80 [mK d,lZ [iW],aQ []] true (· = .aX [eS (bY [45] d .M1).1,eI (bY [45] d .M1).2]):=by
 obtain ⟨hF,ha1,ha2,hk1,hk2⟩:=dkA hk;have hq:=tq d.m d.a d.k ha1 ha2 hk1 hk2;have hn:=B2 hk;have ht:=fg ((mI d.m d.a d.k).length:Int) (by omega);have w1:decide (iW=[102,97,108,115,101])=true:=by decide
 simp only [bY];generalize mI d.m d.a d.k=L at*;generalize bS d.m d.a d.k=c at*;refine Fn.au 164 [.tmp 6,.tmp 7] func80 (hv:= ?_);simp -dsimp -implicitDefEqProofs only [go_sem,w1,uq7,uq8];((with_reducible and_intros);all_goals try (omega));refine av hq (by simp [ax,an,aq,aG]) ?_;simp -dsimp -implicitDefEqProofs only [go_sem];refine aa ht ?_;simp -dsimp -implicitDefEqProofs only [go_sem]
theorem zq (d:Dk) (hk:k7 d=true):Fn pG 80 [mK d,lZ [eW],aQ []] true (· = .aX [eS (bY [45] d .cg).1,eI (bY [45] d .cg).2]):=by
 obtain ⟨hF,ha1,ha2,hk1,hk2⟩:=dkA hk;have hq:=yF d.m d.a d.k ha1 ha2 hk1 hk2;have hn:=qM hF.pF d.a d.k;have hb:0<=(if bk d.m d.a d.k=true then ((cg d.m d.a d.k).length:Int) else 0)/\(if bk d.m d.a d.k=true then ((cg d.m d.a d.k).length:Int) else 0)<=262144:=by split<;>omega
 have ht:=fg (if bk d.m d.a d.k=true then ((cg d.m d.a d.k).length:Int) else 0) (by omega);have w1:decide (eW=[102,97,108,115,101])=false:=by decide
 have w2:decide (eW=[103,104,111,115,116,115])=true:=by decide
 simp only [bY];generalize (if bk d.m d.a d.k=true then ((cg d.m d.a d.k).length:Int) else 0)=L at*;generalize (if bk d.m d.a d.k=true then (0:Int) else 1)=c at*;refine Fn.au 164 [.tmp 6,.tmp 7] func80 (hv:= ?_);simp -dsimp -implicitDefEqProofs only [go_sem,w1,w2,uq7,uq8];((with_reducible and_intros);all_goals try (omega));refine aa hq ?_;simp -dsimp -implicitDefEqProofs only [go_sem];refine aa ht ?_;simp -dsimp -implicitDefEqProofs only [go_sem]
theorem C9 (d:Dk) (hk:k7 d=true):Fn pG 80 [mK d,lZ [fP],aQ []] true (· = .aX [eS (bY [45] d .count).1,eI (bY [45] d .count).2]):=by
 obtain ⟨hF,ha1,ha2,hk1,hk2⟩:=dkA hk;have hq:=CY d.m;have hn:=qK hF.pF;have hb:0<=(if aY d.m=true then iG d.m else 0)/\(if aY d.m=true then iG d.m else 0)<=262144:=by split<;>omega
 have ht:=fg (if aY d.m=true then iG d.m else 0) (by omega);have w1:decide (fP=[102,97,108,115,101])=false:=by decide
 have w2:decide (fP=[103,104,111,115,116,115])=false:=by decide
 have w3:decide (fP=[99,111,117,110,116])=true:=by decide
 simp only [bY];generalize (if aY d.m=true then iG d.m else 0)=L at*;generalize (if aY d.m=true then (0:Int) else 1)=c at*;refine Fn.au 164 [.tmp 6,.tmp 7] func80 (hv:= ?_);simp -dsimp -implicitDefEqProofs only [go_sem,w1,w2,w3,uq7,uq8];((with_reducible and_intros);all_goals try (omega));refine aa hq ?_;simp -dsimp -implicitDefEqProofs only [go_sem];refine aa ht ?_;simp -dsimp -implicitDefEqProofs only [go_sem]
theorem zr (d:Dk) (hk:k7 d=true):Fn pG 80 [mK d,lZ [dj],aQ []] true (· = .aX [eS (bY [45] d .j3).1,eI (bY [45] d .j3).2]):=by
 obtain ⟨hF,ha1,ha2,hk1,hk2⟩:=dkA hk;have hq:=vv d.m d.a d.k ha1 ha2 hk1 hk2;have hb:0<=(if bk d.m d.a d.k=true then nX d.m d.a d.k else 0)/\(if bk d.m d.a d.k=true then nX d.m d.a d.k else 0)<=1000000:=by
  split
  . rename_i h;exact J1 h
  omega
 have ht:=fg (if bk d.m d.a d.k=true then nX d.m d.a d.k else 0) (by omega);have w1:decide (dj=[102,97,108,115,101])=false:=by decide
 have w2:decide (dj=[103,104,111,115,116,115])=false:=by decide
 have w3:decide (dj=[99,111,117,110,116])=false:=by decide
 have w4:decide (dj=[119,97,102,101,114,115])=true:=by decide
 simp only [bY];generalize (if bk d.m d.a d.k=true then nX d.m d.a d.k else 0)=L at*;generalize (if bk d.m d.a d.k=true then (0:Int) else 1)=c at*;refine Fn.au 164 [.tmp 6,.tmp 7] func80 (hv:= ?_);simp -dsimp -implicitDefEqProofs only [go_sem,w1,w2,w3,w4,uq7,uq8];((with_reducible and_intros);all_goals try (omega));refine aa hq ?_;simp -dsimp -implicitDefEqProofs only [go_sem];refine aa ht ?_;simp -dsimp -implicitDefEqProofs only [go_sem]
theorem Gt (d:Dk) (hk:k7 d=true) (x:lU) (n:Nat) (hn:n<=9999999999999):Fn pG 80 [mK d,lZ [jc,x],aQ [n]] true (· = .aX [eS (bY [45] d (.lock n)).1,eI (bY [45] d (.lock n)).2]):=by
 obtain ⟨hF,ha1,ha2,hk1,hk2⟩:=dkA hk;have hq:=IF d.m d.a d.k ha1 ha2 hk1 hk2;have w1:decide (jc=[102,97,108,115,101])=false:=by decide
 have w2:decide (jc=[103,104,111,115,116,115])=false:=by decide
 have w3:decide (jc=[99,111,117,110,116])=false:=by decide
 have w4:decide (jc=[119,97,102,101,114,115])=false:=by decide
 have w5:decide (jc=[108,111,99,107])=true:=by decide
 simp only [bY];by_cases hc:bS d.m d.a d.k=0
 . obtain ⟨h1,h2⟩:=ik hc;rw [if_pos hc] at hq ⊢;rw [hc] at hq;have e0:((0:Int) != 0)=false:=rfl;have hll:=dM d.m d.a d.k (d.a.getD 0 []).length;by_cases hl:n<(d.a.getD 0 []).length
   . rw [if_pos hl];have hg:=jO d.m d.a d.k hl;have h8:∀x∈bN d.m d.a d.k n,x.length<=8:=fun x hx=>by
      have:=iB d.m d.a d.k n x hx;have:=hF.num;omega
     have hp:=Gd d.m (bN d.m d.a d.k n) hF.pF (yM h1 h2 hl) h8;have dl:decide ((n:Int)≥((d.a.getD 0 []).length:Int))=false:=dF (by omega);generalize pO (pins d.m (bN d.m d.a d.k n))=T at*;have hlx:n<(ay d.m d.a d.k (d.a.getD 0 []).length).length:=by omega
     generalize bN d.m d.a d.k n=lk at*;generalize ay d.m d.a d.k (d.a.getD 0 []).length=LL at*;generalize (d.a.getD 0 []).length=D at*;subst hll;refine Fn.au 164 [.tmp 6,.tmp 7] func80 (hv:= ?_);simp -dsimp -implicitDefEqProofs only [go_sem,w1,w2,w3,w4,w5,uq7,uq8];((with_reducible and_intros);all_goals try (omega));refine av hq (by simp [ax,an,aq,aG]) ?_;simp -dsimp -implicitDefEqProofs only [go_sem,e0,uq7,uq8];((with_reducible and_intros);all_goals try (omega));all_goals try simp -dsimp -implicitDefEqProofs only [go_sem,dl]
     refine aj.draw mixed rfl ?_;simp -dsimp -implicitDefEqProofs only [go_sem,hg,uq7,uq8];((with_reducible and_intros);all_goals try (omega));refine ak hp ?_;simp -dsimp -implicitDefEqProofs only [go_sem];all_goals (first|exact rfl|skip)
   rw [if_neg hl];have dl:decide ((n:Int)≥((d.a.getD 0 []).length:Int))=true:=dT (by omega);generalize ay d.m d.a d.k (d.a.getD 0 []).length=LL at*;generalize (d.a.getD 0 []).length=D at*;subst hll;refine Fn.au 164 [.tmp 6,.tmp 7] func80 (hv:= ?_);simp -dsimp -implicitDefEqProofs only [go_sem,w1,w2,w3,w4,w5,uq7,uq8];((with_reducible and_intros);all_goals try (omega));refine av hq (by simp [ax,an,aq,aG]) ?_;simp -dsimp -implicitDefEqProofs only [go_sem,e0,uq7,uq8];((with_reducible and_intros);all_goals try (omega));all_goals try simp -dsimp -implicitDefEqProofs only [go_sem,dl]
 rw [if_neg hc] at hq ⊢;have e0:(bS d.m d.a d.k != 0)=true:=bne_iff_ne.2 hc;generalize bS d.m d.a d.k=c at*;refine Fn.au 164 [.tmp 6,.tmp 7] func80 (hv:= ?_);simp -dsimp -implicitDefEqProofs only [go_sem,w1,w2,w3,w4,w5,uq7,uq8];((with_reducible and_intros);all_goals try (omega));refine av hq (by simp [ax,an,aq,aG]) ?_;simp -dsimp -implicitDefEqProofs only [go_sem,e0]
theorem Da (d:Dk) (hk:k7 d=true) (x:lU) (hx:x.length<=1048576):Fn pG 80 [mK d,lZ [dr,x],aQ []] true (· = .aX [eS (bY [45] d (.opens x)).1,eI (bY [45] d (.opens x)).2]):=by
 obtain ⟨hF,ha1,ha2,hk1,hk2⟩:=dkA hk;have hr:=Fn.shared (yw d.m x hx);have w1:decide (dr=[102,97,108,115,101])=false:=by decide
 have w2:decide (dr=[103,104,111,115,116,115])=false:=by decide
 have w3:decide (dr=[99,111,117,110,116])=false:=by decide
 have w4:decide (dr=[119,97,102,101,114,115])=false:=by decide
 have w5:decide (dr=[108,111,99,107])=false:=by decide
 have w6:decide (dr=[111,112,101,110,115])=true:=by decide
 simp only [bY];by_cases hc:(j6 d.m x).2=0
 . have hkl:(j6 d.m x).1.length<=1048576:=by
    unfold j6;split
    . split
      . rw [c6];exact hx
      simp
    simp
   have hq:=Fn.shared (yD d.m d.a d.k ha1 ha2 hk1 hk2 (j6 d.m x).1 hkl);have hin:=PX (m:=d.m) (t:=d.a) (ab:=d.k) (c:=(j6 d.m x).1);have jq:(BM d.m d.a d.k (j6 d.m x).1).2≠0->(BM d.m d.a d.k (j6 d.m x).1).1=[]:=by
    unfold BM;split
    . split
      . intro h;exact absurd rfl h
      intro _;rfl
    intro _;rfl
   rw [if_pos hc];rw [hc] at hr;have e0:((0:Int) != 0)=false:=rfl;generalize (j6 d.m x).1=K at*;generalize BM d.m d.a d.k K=D at*;obtain ⟨D1,D2⟩:=D;simp only at hq hin jq ⊢;have hl:=Mn D1 (by omega) hin.2;have hR:(if D2=0 then (yu D1,(0:Int)) else ([45],D2))=(yu D1,D2):=by
    split
    . rename_i h;rw [h]
    rename_i h;rw [jq h];rfl
   rw [hR];clear hR jq;refine Fn.au 164 [.tmp 6,.tmp 7] func80 (hv:= ?_);simp -dsimp -implicitDefEqProofs only [go_sem,w1,w2,w3,w4,w5,w6,uq7,uq8];((with_reducible and_intros);all_goals try (omega));refine aj.draw mixed rfl ?_;simp -dsimp -implicitDefEqProofs only [go_sem];((with_reducible and_intros);all_goals try (omega));refine aH hr (by simp [ax,an,aq,aG]) ?_;simp -dsimp -implicitDefEqProofs only [go_sem,e0];((with_reducible and_intros);all_goals try (exact rfl));refine av hq (by simp [ax,an,aq,aG]) ?_;simp -dsimp -implicitDefEqProofs only [go_sem];refine aa hl ?_;simp -dsimp -implicitDefEqProofs only [go_sem]
 rw [if_neg hc];have e0:((j6 d.m x).2 != 0)=true:=bne_iff_ne.2 hc;generalize j6 d.m x=K at*;refine Fn.au 164 [.tmp 6,.tmp 7] func80 (hv:= ?_);simp -dsimp -implicitDefEqProofs only [go_sem,w1,w2,w3,w4,w5,w6,uq7,uq8];((with_reducible and_intros);all_goals try (omega));refine aj.draw mixed rfl ?_;simp -dsimp -implicitDefEqProofs only [go_sem];((with_reducible and_intros);all_goals try (omega));refine aH hr (by simp [ax,an,aq,aG]) ?_;simp -dsimp -implicitDefEqProofs only [go_sem,e0];(all_goals try (exact rfl))
theorem Db (d:Dk) (hk:k7 d=true):Fn pG 80 [mK d,lZ [dY],aQ []] true (· = .aX [eS (bY [45] d .oZ).1,eI (bY [45] d .oZ).2]):=by
 obtain ⟨hF,ha1,ha2,hk1,hk2⟩:=dkA hk;have hq:Fn pG 106 [jM d.m d.a,aR d.k,eI 1] false (· = .aX [aR (yJ d.m d.a d.k),eI (if bk d.m d.a d.k=true then 0 else 1)]):=Fn.yz (Fn.mono (P4 d.m d.a d.k ha1 ha2 hk1 hk2) fun x hx=>⟨_,hx,rfl⟩);have hw:=fun g=>Gn (m:=d.m) (t:=d.a) (ab:=d.k) (g:=g);have hkt:=fun g hg hx=>Mp g hg hx;have w1:decide (dY=[102,97,108,115,101])=false:=by decide
 have w2:decide (dY=[103,104,111,115,116,115])=false:=by decide
 have w3:decide (dY=[99,111,117,110,116])=false:=by decide
 have w4:decide (dY=[119,97,102,101,114,115])=false:=by decide
 have w5:decide (dY=[108,111,99,107])=false:=by decide
 have w6:decide (dY=[111,112,101,110,115])=false:=by decide
 have w7:decide (dY=[119,111,114,115,116])=true:=by decide
 simp only [bY];generalize yJ d.m d.a d.k=L at*;rcases L with _|⟨g,L⟩
 . have e1:(((([]:lL).length:Nat):Int)==0)=true:=rfl;generalize (if bk d.m d.a d.k=true then (0:Int) else 1)=c at*;refine Fn.au 164 [.tmp 6,.tmp 7] func80 (hv:= ?_);simp -dsimp -implicitDefEqProofs only [go_sem,w1,w2,w3,w4,w5,w6,w7,uq7,uq8];((with_reducible and_intros);all_goals try (omega));refine av hq (by simp [ax,an,aq,aG]) ?_;simp -dsimp -implicitDefEqProofs only [go_sem,uq8,uq5]
 obtain ⟨g1,g2,g3⟩:=hw g (by simp);have gk:=gq (m:=d.m) (c:=g) (beq_iff_eq.2 g3);have gl:g.length<=1048576:=by have:=gk.1;have:=hF.num;omega
 have hkg:=hkt g gl fun y hy=>by have:=gk.2 y hy;have:=hF.num;omega
 generalize (if bk d.m d.a d.k=true then (0:Int) else 1)=c at*;have e1:((((L.length+1:Nat):Nat):Int)==0)=false:=by rw [beq_eq_false_iff_ne];omega
 clear hw hkt;refine Fn.au 164 [.tmp 6,.tmp 7] func80 (hv:= ?_);simp -dsimp -implicitDefEqProofs only [go_sem,w1,w2,w3,w4,w5,w6,w7,uq7,uq8];((with_reducible and_intros);all_goals try (omega));refine av hq (by simp [ax,an,aq,aG]) ?_;simp -dsimp -implicitDefEqProofs only [go_sem,e1,uq7,uq3];((with_reducible and_intros);all_goals try (omega));refine aa hkg ?_;simp -dsimp -implicitDefEqProofs only [go_sem]
theorem Dc (d:Dk) (hk:k7 d=true) (x y:lU) (n s:Nat) (hn:n<=9999999999999/\s<=9999999999999):Fn pG 80 [mK d,lZ [dW,x,y],aQ [n,s]] true (· = .aX [eS (bY [45] d (.o1 n s)).1,eI (bY [45] d (.o1 n s)).2]):=by
 obtain ⟨hF,ha1,ha2,hk1,hk2⟩:=dkA hk;have w1:decide (dW=[102,97,108,115,101])=false:=by decide
 have w2:decide (dW=[103,104,111,115,116,115])=false:=by decide
 have w3:decide (dW=[99,111,117,110,116])=false:=by decide
 have w4:decide (dW=[119,97,102,101,114,115])=false:=by decide
 have w5:decide (dW=[108,111,99,107])=false:=by decide
 have w6:decide (dW=[111,112,101,110,115])=false:=by decide
 have w7:decide (dW=[119,111,114,115,116])=false:=by decide
 simp only [bY];by_cases hl:n<d.k.length
 . rw [if_pos hl];have gn:=get_some hl;have ek:d.k.getD n []=d.k[n]:=by rw [List.getD_eq_getElem?_getD,gn];rfl
   rw [ek];have hq:=ID d.m d.k[n] 0 (s:Int) (hk2 _ (List.getElem_mem hl));have dl:decide ((n:Int)≥(d.k.length:Int))=false:=dF (by omega);generalize jZ d.m d.k[n] 0 (s:Int)=T at*;generalize d.k[n]=K at*;refine Fn.au 164 [.tmp 6,.tmp 7] func80 (hv:= ?_);simp -dsimp -implicitDefEqProofs only [go_sem,w1,w2,w3,w4,w5,w6,w7,uq7,uq8];((with_reducible and_intros);all_goals try (omega));refine aj.draw mixed rfl ?_;simp -dsimp -implicitDefEqProofs only [go_sem];((with_reducible and_intros);all_goals try first|omega|exact rfl);all_goals try simp -dsimp -implicitDefEqProofs only [go_sem,dl]
   refine aj.draw mixed rfl ?_;simp -dsimp -implicitDefEqProofs only [go_sem,gn];((with_reducible and_intros);all_goals try (omega));refine ak hq ?_;simp -dsimp -implicitDefEqProofs only [go_sem];all_goals (first|exact rfl|skip)
 rw [if_neg hl];have dl:decide ((n:Int)≥(d.k.length:Int))=true:=dT (by omega);refine Fn.au 164 [.tmp 6,.tmp 7] func80 (hv:= ?_);simp -dsimp -implicitDefEqProofs only [go_sem,w1,w2,w3,w4,w5,w6,w7,uq7,uq8];((with_reducible and_intros);all_goals try (omega));refine aj.draw mixed rfl ?_;simp -dsimp -implicitDefEqProofs only [go_sem];((with_reducible and_intros);all_goals try first|omega|exact rfl);all_goals try simp -dsimp -implicitDefEqProofs only [go_sem,dl]
theorem SZ (m:aK) (x:lU):(j6 m x).1.length<=x.length:=by
 unfold j6;split
 . split
   . rw [c6];exact Nat.le_refl _
   simp
 simp
theorem Qj (d:Dk) (hk:k7 d=true) (x y:lU) (hx:x.length<=1000000) (hy:y.length<=1000000):Fn pG 94 [mK d,eS x,eS y] false (· = .aX [mK (vw d x y).1,eI (vw d x y).2]):=by
 refine Fn.cf 52 [.cell 6 26,.tmp 7] func94 (hv:= ?_);obtain ⟨hF,ha1,ha2,hk1,hk2⟩:=dkA hk;have hr:=Fn.shared (yw d.m x (by omega));have hrl:=SZ d.m x;unfold vw;by_cases hc:(j6 d.m x).2=0
 . have e0:((0:Int) != 0)=false:=rfl;have hrd:=Fn.shared (BJ y (by omega));rw [if_pos hc];rw [hc] at hr;generalize (j6 d.m x).1=K at*;rcases hdg:y.all dO with _|_
   . rw [hdg] at hrd;simp -dsimp -implicitDefEqProofs only [go_sem];refine av hr (by simp [ax,an,aq,aG]) ?_;simp -dsimp -implicitDefEqProofs only [go_sem,e0];refine av hrd (by simp [ax,an,aG]) ?_;simp -dsimp -implicitDefEqProofs only [go_sem]
   rw [hdg,if_pos rfl] at hrd;rw [if_pos rfl];have hcl:=c6 y;generalize bw y=R at*;have hl1:=u7 d.a (by have:=hF.al;omega) ha2;have hl2:=u7 d.k (by have:=hF.al;have:=hF.kl;omega) hk2
   have hd:=L1 d.m (d.a++[R]) (d.k++[K]) (by have:=hF.al;simp;omega) (fun z hz=>by
    rcases List.mem_append.1 hz with hz|hz
    . exact ha2 z hz
    . rw [uq9] at hz;subst hz;omega) (by have:=hF.al;have:=hF.kl;simp;omega) (fun z hz=>by
    rcases List.mem_append.1 hz with hz|hz
    . exact hk2 z hz
    rw [uq9] at hz;subst hz;omega)
   simp only [WV,aR,List.map_append,uq7,uq8] at hd;have hal:=hF.al;have hkl:=hF.kl;have t1:(d.a.map aQ).take d.a.length=d.a.map aQ:=cK (by simp);have t2:(d.k.map aQ).take d.k.length=d.k.map aQ:=cK (by simp);have t3:(d.a.map aQ++[aQ R]).take (d.a.length+1)=d.a.map aQ++[aQ R]:=cK (by simp);have t4:(d.k.map aQ++[aQ K]).take (d.k.length+1)=d.k.map aQ++[aQ K]:=cK (by simp);have m1:(d.a++[R]).map aQ=d.a.map aQ++[aQ R]:=by simp
   have m2:(d.k++[K]).map aQ=d.k.map aQ++[aQ K]:=by simp
   rcases hdk:gM d.m (d.a++[R]) (d.k++[K]) with _|_
   . rw [hdk] at hd;rw [if_neg (by simp)];simp -dsimp -implicitDefEqProofs only [go_sem];refine av hr (by simp [ax,an,aq,aG]) ?_;simp -dsimp -implicitDefEqProofs only [go_sem,e0];refine av hrd (by simp [ax,an,aG]) ?_;simp -dsimp -implicitDefEqProofs only [go_sem];refine aj.draw mixed rfl ?_;simp -dsimp -implicitDefEqProofs only [go_sem];refine kL hl1 (by decide) rfl (by decide) ?_;simp -dsimp -implicitDefEqProofs only [go_sem,t1];refine .inr ⟨by omega,?_⟩;refine kL hl2 (by decide) rfl (by decide) ?_;simp -dsimp -implicitDefEqProofs only [go_sem,t2];refine .inr ⟨by omega,?_⟩;simp -dsimp -implicitDefEqProofs only [go_sem,t3,t4];((with_reducible and_intros);all_goals try (exact rfl));refine aa hd ?_;simp -dsimp -implicitDefEqProofs only [go_sem]
   rw [hdk] at hd;rw [if_pos rfl];simp -dsimp -implicitDefEqProofs only [go_sem];refine av hr (by simp [ax,an,aq,aG]) ?_;simp -dsimp -implicitDefEqProofs only [go_sem,e0];refine av hrd (by simp [ax,an,aG]) ?_;simp -dsimp -implicitDefEqProofs only [go_sem];refine aj.draw mixed rfl ?_;simp -dsimp -implicitDefEqProofs only [go_sem];refine kL hl1 (by decide) rfl (by decide) ?_;simp -dsimp -implicitDefEqProofs only [go_sem,t1];refine .inr ⟨by omega,?_⟩;refine kL hl2 (by decide) rfl (by decide) ?_;simp -dsimp -implicitDefEqProofs only [go_sem,t2];refine .inr ⟨by omega,?_⟩;simp -dsimp -implicitDefEqProofs only [go_sem,t3,t4];((with_reducible and_intros);all_goals try (exact rfl));refine aa hd ?_;simp -dsimp -implicitDefEqProofs only [go_sem,t3,t4];all_goals first|(simp;done)|skip
 rw [if_neg hc];have e0:((j6 d.m x).2 != 0)=true:=bne_iff_ne.2 hc;generalize j6 d.m x=K at*;simp -dsimp -implicitDefEqProofs only [go_sem];refine av hr (by simp [ax,an,aq,aG]) ?_;simp -dsimp -implicitDefEqProofs only [go_sem,e0]
theorem Dd (d:Dk) (hk:k7 d=true) (x1 x2 x3 x4 x5:lU) (n1 n2 n3 n4 n5:Nat):Fn pG 79 [mK d,lZ [gP,x1,x2,x3,x4,x5],aQ [n1,n2,n3,n4,n5]] false (· = .aX [mK (dQ d (.kX ⟨n1,n2,n3,n4,n5⟩)).1,eI (dQ d (.kX ⟨n1,n2,n3,n4,n5⟩)).2]):=by
 refine Fn.yz (Fn.mono (post:=fun x=>sJ x (.aX [mK (dQ d (.kX ⟨n1,n2,n3,n4,n5⟩)).1,eI (dQ d (.kX ⟨n1,n2,n3,n4,n5⟩)).2])) (Fn.cf 102 [.cell 6 26,.tmp 7] func79 (hv:= ?_)) fun x hx=>⟨_,hx,rfl⟩);have hm:=fA ⟨n1,n2,n3,n4,n5⟩;have w1:decide (gP=[109,97,107,101,114])=true:=by decide
 simp only [dQ];rcases ko:aY ⟨n1,n2,n3,n4,n5⟩ with _|_
 . rw [ko] at hm;rw [if_neg (by simp)];simp -dsimp -implicitDefEqProofs only [go_sem,w1,uq7,uq8];((with_reducible and_intros);all_goals try (omega));refine aj.draw mixed rfl ?_;simp -dsimp -implicitDefEqProofs only [go_sem];((with_reducible and_intros);all_goals try first|omega|exact rfl);refine aa hm ?_;simp -dsimp -implicitDefEqProofs only [go_sem]
 rw [ko] at hm;rw [if_pos rfl];simp -dsimp -implicitDefEqProofs only [go_sem,w1,uq7,uq8];((with_reducible and_intros);all_goals try (omega));refine aj.draw mixed rfl ?_;simp -dsimp -implicitDefEqProofs only [go_sem];((with_reducible and_intros);all_goals try first|omega|exact rfl);refine aa hm ?_;simp -dsimp -implicitDefEqProofs only [go_sem]
theorem IW (d:Dk) (hk:k7 d=true) (x y:lU) (hx:x.length<=1000000) (hy:y.length<=1000000):Fn pG 79 [mK d,lZ [kW,x,y],aQ []] false (· = .aX [mK (dQ d (.key x y)).1,eI (dQ d (.key x y)).2]):=by
 refine Fn.cf 102 [.cell 6 26,.tmp 7] func79 (hv:= ?_);have hq:=Qj d hk x y hx hy;have w1:decide (kW=[109,97,107,101,114])=false:=by decide
 have w2:decide (kW=[107,101,121])=true:=by decide
 simp only [dQ];generalize vw d x y=q at*;simp -dsimp -implicitDefEqProofs only [go_sem,w1,w2,uq7,uq8];((with_reducible and_intros);all_goals try (omega));refine aj.draw mixed rfl ?_;simp -dsimp -implicitDefEqProofs only [go_sem];((with_reducible and_intros);all_goals try (omega));refine aH hq (by simp [ax,an,aq,aG]) ?_;simp -dsimp -implicitDefEqProofs only [go_sem];(all_goals try (exact rfl))
theorem Gu (d:Dk) (hk:k7 d=true) (x:lU) (n:Nat) (hn:n<=9999999999999):Fn pG 79 [mK d,lZ [iD,x],aQ [n]] false (· = .aX [mK (dQ d (.drop n)).1,eI (dQ d (.drop n)).2]):=by
 refine Fn.cf 102 [.cell 6 26,.tmp 7] func79 (hv:= ?_);obtain ⟨hF,ha1,ha2,hk1,hk2⟩:=dkA hk;have hi:=jz (n:Int) 0 ((d.k.length:Int)-1);have hal:=hF.al;have hkl:=hF.kl;have e1:=sr d.a n (by omega) ha2;have e2:=sr d.k n (by omega) hk2;have w1:decide (iD=[109,97,107,101,114])=false:=by decide
 have w2:decide (iD=[107,101,121])=false:=by decide
 have w3:decide (iD=[100,114,111,112])=true:=by decide
 simp only [dQ];by_cases hl:n<d.k.length
 . rw [show bB (n:Int) 0 ((d.k.length:Int)-1)=true by simp only [bB,uq0,decide_eq_true_eq];omega] at hi;rw [if_pos hl];simp -dsimp -implicitDefEqProofs only [go_sem,w1,w2,w3,uq7,uq8];((with_reducible and_intros);all_goals try (omega));refine aj.draw mixed rfl ?_;simp -dsimp -implicitDefEqProofs only [go_sem];((with_reducible and_intros);all_goals try first|omega|(refine ⟨?_,?_⟩<;>omega));refine ak hi ?_;simp -dsimp -implicitDefEqProofs only [go_sem];((with_reducible and_intros);all_goals try (exact rfl));refine aj.draw mixed rfl ?_;simp -dsimp -implicitDefEqProofs only [go_sem];((with_reducible and_intros);all_goals try (omega));refine aH e1 (by simp [ax,an,aG]) ?_;simp -dsimp -implicitDefEqProofs only [go_sem];((with_reducible and_intros);all_goals try (omega));refine aH e2 (by simp [ax,an,aG]) ?_;simp -dsimp -implicitDefEqProofs only [go_sem];(all_goals try (exact rfl))
 rw [show bB (n:Int) 0 ((d.k.length:Int)-1)=false by rw [Bool.eq_false_iff];simp only [bB,ne_eq,uq0,decide_eq_true_eq];omega] at hi;rw [if_neg hl];simp -dsimp -implicitDefEqProofs only [go_sem,w1,w2,w3,uq7,uq8];((with_reducible and_intros);all_goals try (omega));refine aj.draw mixed rfl ?_;simp -dsimp -implicitDefEqProofs only [go_sem];((with_reducible and_intros);all_goals try first|omega|(refine ⟨?_,?_⟩<;>omega));refine ak hi ?_;simp -dsimp -implicitDefEqProofs only [go_sem];(all_goals try (exact rfl))
theorem Gv (d:Dk) (hk:k7 d=true) (x:lU) (n:Nat) (hn:n<=9999999999999):Fn pG 79 [mK d,lZ [gT,x],aQ [n]] false (· = .aX [mK (dQ d (.find n)).1,eI (dQ d (.find n)).2]):=by
 refine Fn.cf 102 [.cell 6 26,.tmp 7] func79 (hv:= ?_);obtain ⟨hF,ha1,ha2,hk1,hk2⟩:=dkA hk;have hal:=hF.al;have hq:=Qg d.m d.a n ha1 ha2;have hl:=yp d.a (by omega) ha2;have w1:decide (gT=[109,97,107,101,114])=false:=by decide
 have w2:decide (gT=[107,101,121])=false:=by decide
 have w3:decide (gT=[100,114,111,112])=false:=by decide
 simp only [dQ];generalize gJ d.m d.a n=q at*;by_cases hc:q.2.2=0
 . rw [if_pos hc];rw [hc] at hq;have e0:((0:Int) != 0)=false:=rfl;simp -dsimp -implicitDefEqProofs only [go_sem,w1,w2,w3,uq7,uq8];((with_reducible and_intros);all_goals try (omega));refine aj.draw mixed rfl ?_;simp -dsimp -implicitDefEqProofs only [go_sem];((with_reducible and_intros);all_goals try (omega));refine aH hq (by simp [ax,an,aq,aG]) ?_;simp -dsimp -implicitDefEqProofs only [go_sem,e0];((with_reducible and_intros);all_goals try (exact rfl));refine aj.draw mixed rfl ?_;simp -dsimp -implicitDefEqProofs only [go_sem];refine aH hl (by simp [ax,an,aG]) ?_;simp -dsimp -implicitDefEqProofs only [go_sem];(all_goals try (exact rfl))
 rw [if_neg hc];have e0:(q.2.2 != 0)=true:=bne_iff_ne.2 hc;simp -dsimp -implicitDefEqProofs only [go_sem,w1,w2,w3,uq7,uq8];((with_reducible and_intros);all_goals try (omega));refine aj.draw mixed rfl ?_;simp -dsimp -implicitDefEqProofs only [go_sem];((with_reducible and_intros);all_goals try (omega));refine aH hq (by simp [ax,an,aq,aG]) ?_;simp -dsimp -implicitDefEqProofs only [go_sem,e0];(all_goals try (exact rfl))
theorem Gw (d:Dk) (hk:k7 d=true) {ws:List lU} {ns:lI} {c:C6} (h:mJ ws ns c) (hc:yO c=true) (hl:∀w∈ws,w.length<=1000000):Fn pG 79 [mK d,lZ ws,aQ ns] false (· = .aX [mK (dQ d c).1,eI (dQ d c).2]):=by
 cases h with
 |kX=>exact Dd d hk ..
 |key x y=>exact IW d hk x y (hl x (by simp)) (hl y (by simp))
 |drop x n hn=>exact Gu d hk x n hn
 |find x n hn=>exact Gv d hk x n hn
 |_=>cases hc
theorem Qk (d:Dk) (hk:k7 d=true) {ws:List lU} {ns:lI} {c:C6} (h:mJ ws ns c) (hc:yO c=false) (hl:∀w∈ws,w.length<=1000000):Fn pG 80 [mK d,lZ ws,aQ ns] true (· = .aX [eS (bY [45] d c).1,eI (bY [45] d c).2]):=by
 cases h with
 |M1=>exact IV d hk
 |cg=>exact zq d hk
 |count=>exact C9 d hk
 |j3=>exact zr d hk
 |oZ=>exact Db d hk
 |lock x n hn=>exact Gt d hk x n hn
 |opens x=>exact Da d hk x (by have:=hl x (by simp);omega)
 |o1 x y n s hn=>exact Dc d hk x y n s hn
 |_=>cases hc
theorem Gx (m:aK) (x:lU):0<=(j6 m x).2/\(j6 m x).2<=6:=by
 unfold j6;split
 . split<;>simp
 simp
theorem IX (m:aK) (t:lL) (lim:Nat):0<=(gJ m t lim).2.2/\(gJ m t lim).2.2<=6:=by unfold gJ kU;generalize dN m t lim t.length [] ⟨0,false,[]⟩=F;obtain ⟨b,tr,st,fd⟩:=F;rcases eO m t with _|_<;>rcases bB (lim:Int) 0 4000 with _|_<;>rcases fd with _|⟨f,r⟩<;>cases st<;>simp
theorem Gy (m:aK) (key:lI) (se sec:Int):0<=(jZ m key se sec).2/\(jZ m key se sec).2<=6:=by
 have hc:0<=lO m se sec/\lO m se sec<=6:=by
  unfold lO;split
  . split<;>simp
  simp
 unfold jZ;split
 . split<;>simp
 exact hc
theorem B5 (d:Dk) (c:C6):0<=(dQ d c).2/\(dQ d c).2<=6:=by
 cases c<;>simp only [dQ]
 . split<;>simp
 . unfold vw;split
   . split
     . split<;>simp
     simp
   exact Gx d.m _
 . split<;>simp
 . split
   . simp
   exact IX ..
 all_goals simp
theorem yU (e:lU) (d:Dk) (c:C6):0<=(bY e d c).2/\(bY e d c).2<=6:=by
 have hcc:0<=bS d.m d.a d.k/\bS d.m d.a d.k<=6:=by
  unfold bS;split
  . split<;>simp
  simp
 have h01:∀b:Bool,0<=(if b=true then (0:Int) else 1)/\(if b=true then (0:Int) else 1)<=6:=fun b=>by cases b<;>simp
 cases c<;>simp only [bY]
 case M1=>exact hcc
 case cg=>exact h01 _
 case oZ=>exact h01 _
 case count=>exact h01 _
 case j3=>exact h01 _
 case lock n=>
  split
  . split<;>simp
  exact hcc
 case opens x=>
  split
  . split
    . simp
    unfold BM;split
    . split<;>simp
    simp
  exact Gx d.m x
 case o1 n s=>
  split
  . exact Gy ..
  simp
 all_goals simp
theorem mJ.head {ws:List lU} {ns:lI} {c:C6} (h:mJ ws ns c):∃w,ws[0]? =some w/\((yO c=true/\(w=gP\/w=kW\/w=iD\/w=gT))\/(yO c=false/\w≠gP/\w≠kW/\w≠iD/\w≠gT)):=by
 cases h
 case kX=>exact ⟨_,rfl,.inl ⟨rfl,.inl rfl⟩⟩
 case key=>exact ⟨_,rfl,.inl ⟨rfl,.inr (.inl rfl)⟩⟩
 case drop=>exact ⟨_,rfl,.inl ⟨rfl,.inr (.inr (.inl rfl))⟩⟩
 case find=>exact ⟨_,rfl,.inl ⟨rfl,.inr (.inr (.inr rfl))⟩⟩
 all_goals exact ⟨_,rfl,.inr ⟨rfl,by decide,by decide,by decide,by decide⟩⟩
theorem u9 {s:lU}:∀w∈(fj s).1,w.length<=s.length:=by
 have h:=iV 32 s;unfold fj;split
 . simp
 split
 . exact h
 split
 . exact h
 simp
theorem nG {w:lU} (h:w=gP\/w=kW\/w=iD\/w=gT):
 decide (w=[109,97,107,101,114])=true\/(decide (w=[109,97,107,101,114])=false/\decide (w=[107,101,121])=true)\/(decide (w=[109,97,107,101,114])=false/\decide (w=[107,101,121])=false/\decide (w=[100,114,111,112])=true)∨
  (decide (w=[109,97,107,101,114])=false/\decide (w=[107,101,121])=false/\decide (w=[100,114,111,112])=false/\decide (w=[102,105,110,100])=true):=by
 rcases h with rfl|rfl|rfl|rfl<;>decide
theorem Ql (d:Dk) (hk:k7 d=true) (l:lU) (hl:l.length<=1000000):Fn pG 55 [mK d,eS l] false (· = .aX [mK (nZ d l).1,eS (nZ d l).2]):=by
 refine Fn.cf 54 [.cell 4 26,.tmp 5] func55 (hv:= ?_);have hp:=Fn.shared (Iw l (by omega));have hw:=u9 (s:=l);rcases hb:(fj l).2.2 with _|_
 . have hR:nZ d l=(d,yR 6):=by unfold nZ;rw [yQ hb]
   rw [hR];have hi6:=cO (v:=6) (by unfold km;omega);rw [hb] at hp;have h6:=fg 6 (by omega);generalize fj l=p at*;simp only [yR];simp -dsimp -implicitDefEqProofs only [go_sem];refine av hp (by simp [ax,an,aG]) ?_;simp -dsimp -implicitDefEqProofs only [go_sem];refine aj.draw mixed rfl ?_;simp -dsimp -implicitDefEqProofs only [go_sem];refine ak h6 ?_;simp -dsimp -implicitDefEqProofs only [go_sem];((with_reducible and_intros);all_goals try first|omega|exact rfl)
 obtain ⟨c,hco,hcm⟩:=yP hb;have hR:nZ d l=VC d c:=by unfold nZ;rw [hco]
 rw [hR];rw [hb] at hp;have Dn:=fun h=>Gw d hk hcm h fun w hm=>by have:=hw w hm;omega
 have zA:=fun h=>Qk d hk hcm h fun w hm=>by have:=hw w hm;omega
 obtain ⟨w0,g0,hhd⟩:=hcm.head;have hcc:=B5 d c;have hca:=yU [] d c;have ht:=MJ [45] [] d c;rw [MI [45] [] d c] at zA ht;have hlen:0<(fj l).1.length:=(List.getElem?_eq_some_iff.1 g0).1;clear hcm hco hR;generalize fj l=p at*;obtain ⟨ws,ns,b⟩:=p;simp only at hp Dn zA g0 hb hlen;subst hb;clear hw;unfold VC;rcases hhd with ⟨hch,hwd⟩|⟨hch,n1,n2,n3,n4⟩
 . have hq:=Dn hch;rw [if_pos hch];clear Dn zA ht hca;generalize dQ d c=q at*;by_cases hc:q.2=0
   . rw [if_pos hc];rw [hc] at hq;have e0:((0:Int) != 0)=false:=rfl;rcases nG hwd with w1|⟨w1,w2⟩|⟨w1,w2,w3⟩|⟨w1,w2,w3,w4⟩
     all_goals (
      simp -dsimp -implicitDefEqProofs only [go_sem];refine av hp (by simp [ax,an,aG]) ?_;simp -dsimp -implicitDefEqProofs only [go_sem, *];((with_reducible and_intros);all_goals try (omega));refine av hq (by simp [ax,an,aq,aG]) ?_
      simp -dsimp -implicitDefEqProofs only [go_sem, *])
   rw [if_neg hc];have e0:(q.2 != 0)=true:=bne_iff_ne.2 hc;have hd:=fg q.2 (by omega);have hi6:=cO (v:=q.2) (by unfold km;omega);simp only [yR];rcases nG hwd with w1|⟨w1,w2⟩|⟨w1,w2,w3⟩|⟨w1,w2,w3,w4⟩
   all_goals (
    simp -dsimp -implicitDefEqProofs only [go_sem];refine av hp (by simp [ax,an,aG]) ?_;simp -dsimp -implicitDefEqProofs only [go_sem, *];((with_reducible and_intros);all_goals try (omega));refine av hq (by simp [ax,an,aq,aG]) ?_;simp -dsimp -implicitDefEqProofs only [go_sem, *];refine aj.draw mixed rfl ?_;simp -dsimp -implicitDefEqProofs only [go_sem];refine ak hd ?_;simp -dsimp -implicitDefEqProofs only [go_sem]
    ((with_reducible and_intros);all_goals try first|omega|exact rfl))
 have hq:=zA hch;rw [if_neg (by rw [hch];simp)];have w1:decide (w0=[109,97,107,101,114])=false:=dF n1;have w2:decide (w0=[107,101,121])=false:=dF n2;have w3:decide (w0=[100,114,111,112])=false:=dF n3;have w4:decide (w0=[102,105,110,100])=false:=dF n4;clear Dn zA hcc n1 n2 n3 n4;generalize bY [45] d c=q at*;generalize bY [] d c=q' at*;by_cases hc:q'.2=0
 . rw [if_pos hc];rw [ht hc] at hq;rw [hc] at hq;have e0:((0:Int) != 0)=false:=rfl;simp -dsimp -implicitDefEqProofs only [go_sem];refine av hp (by simp [ax,an,aG]) ?_;simp -dsimp -implicitDefEqProofs only [go_sem,g0,w1,w2,w3,w4];((with_reducible and_intros);all_goals try (omega));refine aa hq ?_;simp -dsimp -implicitDefEqProofs only [go_sem,e0]
 rw [if_neg hc];have e0:(q'.2 != 0)=true:=bne_iff_ne.2 hc;have hd:=fg q'.2 (by omega);have hi6:=cO (v:=q'.2) (by unfold km;omega);simp only [yR];simp -dsimp -implicitDefEqProofs only [go_sem];refine av hp (by simp [ax,an,aG]) ?_;simp -dsimp -implicitDefEqProofs only [go_sem,g0,w1,w2,w3,w4];((with_reducible and_intros);all_goals try (omega));refine aa hq ?_;simp -dsimp -implicitDefEqProofs only [go_sem,e0];refine aj.draw mixed rfl ?_;simp -dsimp -implicitDefEqProofs only [go_sem];refine ak hd ?_;simp -dsimp -implicitDefEqProofs only [go_sem];((with_reducible and_intros);all_goals try first|omega|exact rfl)
noncomputable def Qm (s:lU):Dk × Int:=if (decide (s.length<=3000)&&decide ((fm s).length<=50))=true then ((eU (fm s)).1,0) else (⟨⟨0,0,0,0,0⟩,[],[]⟩,3)
noncomputable def lQ (s:lU):List lU × Int:=if (decide (s.length<=3000)&&decide ((fm s).length<=50))=true then ((eU (fm s)).2,0) else ([],3)
theorem IY:Fn pG 40 [] false (· =mK QU):=by refine Fn.yz (Fn.mono (post:=fun x=>sJ x (mK QU)) (Fn.cf 3 [.cell 0 26] func40 (hv:= ?_)) fun x hx=>⟨_,hx,rfl⟩);unfold QU;simp -dsimp -implicitDefEqProofs only [go_sem]
theorem Qn (ls:List lU) (h:ls.length<=1000000) (hl:∀l∈ls,l.length<=1000000):Fn pG 29 [lZ ls] false (· = .aX [mK (eU ls).1,lZ (eU ls).2]):=by
 refine Fn.cf 33 [.cell 2 26,.tmp 3] func29 (hv:= ?_);have h0:=IY;have hln:∀i,i<=ls.length->(eU (ls.take i)).2.length=i:=fun i hi=>by rw [vJ];simp;omega
 simp -dsimp -implicitDefEqProofs only [go_sem];refine av h0 (by exact True.intro) ?_;simp -dsimp -implicitDefEqProofs only [go_sem]
 refine aj.up [0,2,4] [7,13,23,29,30] [10,4] ls.length (fun _=>True) (fun i=>[(6,eI i),(5,.ref 10 0 0 i)])
  (fun i=>[(10,.row 0 ⟨1,false⟩ true ((eU (ls.take i)).2.map eS)),(4,.box 0 [eI (eU (ls.take i)).1.m.af,eI (eU (ls.take i)).1.m.ao,eI (eU (ls.take i)).1.m.step,eI (eU (ls.take i)).1.m.same,eI (eU (ls.take i)).1.m.least,aR (eU (ls.take i)).1.a,aR (eU (ls.take i)).1.k])]) trivial ?_ rfl (fun i hi _=> ?_) (fun _=> ?_)
 . rw [dt,yT];unfold QU;simp -dsimp -implicitDefEqProofs only [go_sem]
 . have gi:=get_some hi;have li:=aE hi;have cJ:=Ql (eU (ls.take i)).1 (C7 ls i) ls[i] (hl _ (List.getElem_mem hi));have hs:=tz hi;unfold yS at hs;have hl1:=hln i (by omega);rw [hs];clear hs hln;generalize eU (ls.take i)=p at*;generalize ls[i]=l at*;generalize nZ p.1 l=r at*;have tP:(p.2.map eS).take i=p.2.map eS:=cK (by simp;omega);have eM:(p.2++[r.2]).map eS=p.2.map eS++[eS r.2]:=by simp
   rw [eM];simp -dsimp -implicitDefEqProofs only [pz,cF,bf,bu,↓reduceIte,cj];simp -dsimp -implicitDefEqProofs only [go_sem,li];refine aj.draw mixed rfl ?_;simp -dsimp -implicitDefEqProofs only [go_sem,gi];((with_reducible and_intros);all_goals try (omega));refine aH cJ (by simp [ax,an,aq,aG]) ?_;simp -dsimp -implicitDefEqProofs only [go_sem];((with_reducible and_intros);all_goals try first|omega|(refine ⟨?_,?_⟩<;>omega)|exact rfl);all_goals try simp -dsimp -implicitDefEqProofs only [go_sem,tP]
 rw [List.take_length];have hl1:=hln ls.length (Nat.le_refl _);rw [List.take_length] at hl1;generalize eU ls=p at*;have tP:(p.2.map eS).take ls.length=p.2.map eS:=cK (by simp;omega);simp -dsimp -implicitDefEqProofs only [pz,cF,bf,bu,↓reduceIte,cj];simp -dsimp -implicitDefEqProofs only [go_sem,aA,tP];(all_goals try (omega))
theorem zt (s:lU) (h:s.length<=1048576):Fn pG 15 [eS s] false (· = .aX [lZ (lQ s).1,eI (lQ s).2]):=by
 refine Fn.yz (Fn.mono (post:=fun x=>sJ x (.aX [lZ (lQ s).1,eI (lQ s).2])) (Fn.cf 16 [.tmp 2,.tmp 3] func15 (hv:= ?_)) fun x hx=>⟨_,hx,rfl⟩);have hf:=Mt s h;have hll:=Fn.shared (yy s h);have hb:=yx s;have ha:=Qn (fm s);unfold lQ;rcases o5:(decide (s.length<=3000)&&decide ((fm s).length<=50)) with _|_
 . rw [o5] at hf;rw [if_neg (by simp)];simp -dsimp -implicitDefEqProofs only [go_sem];refine aa hf ?_;simp -dsimp -implicitDefEqProofs only [go_sem]
 rw [o5] at hf;rw [if_pos rfl];simp only [uq0,decide_eq_true_eq] at o5;have ha:=ha (by omega) fun l hl=>by have:=hb.2 l hl;omega
 generalize fm s=ls at*;generalize eU ls=p at*;simp -dsimp -implicitDefEqProofs only [go_sem];refine aa hf ?_;simp -dsimp -implicitDefEqProofs only [go_sem];refine av hll (by simp [ax,an,aG]) ?_;simp -dsimp -implicitDefEqProofs only [go_sem];refine av ha (by simp [ax,an,aG]) ?_;simp -dsimp -implicitDefEqProofs only [go_sem]
theorem MO (d:Dk) (c:C6):(dQ d c).2≠0->(dQ d c).1=d:=by
 cases c<;>simp only [dQ]
 . split
   . intro h;exact absurd rfl h
   intro _;rfl
 . unfold vw;split
   . split
     . split
       . intro h;exact absurd rfl h
       intro _;rfl
     intro _;rfl
   intro _;rfl
 . split
   . intro h;exact absurd rfl h
   intro _;rfl
 . split
   . intro h;exact absurd rfl h
   intro _;rfl
 all_goals (intro h;exact absurd rfl h)
theorem Qo (d:Dk) (hk:k7 d=true) {ws:List lU} {ns:lI} {c:C6} (h:mJ ws ns c) (hc:yO c=true) (hl:∀w∈ws,w.length<=1000000) (va vk:Nat):
 fK pG 84 (zn va vk d) [.ptr 1900000006 0 0 0,lZ ws,aQ ns] (fun r m'=>r=eI (dQ d c).2/\m'=zn (va+1) (vk+1) (dQ d c).1):=by
 cases h with
 |kX=>exact Gs d hk ..
 |key x y=>exact MN d hk x y (hl x (by simp)) (hl y (by simp)) va vk
 |drop x n hn=>exact IT d hk x n hn va vk
 |find x n hn=>exact IU d hk x n hn va vk
 |_=>cases hc
theorem Xf (d:Dk) (hk:k7 d=true) {ws:List lU} {ns:lI} {c:C6} (h:mJ ws ns c) (hc:yO c=false) (hl:∀w∈ws,w.length<=1000000):
 Fn pG 85 [.bq ⟨7,true⟩ [mK d] 0 0,lZ ws,aQ ns] true (· = .aX [eS (bY [] d c).1,eI (bY [] d c).2]):=by
 cases h with
 |M1=>exact vK d iW .M1 (by decide) (IQ d hk)
 |cg=>exact vK d eW .cg (by decide) (zo d hk)
 |count=>exact vK d fP .count (by decide) (C8 d hk)
 |j3=>exact vK d dj .j3 (by decide) (zp d hk)
 |oZ=>exact Gq d hk
 |lock x n hn=>exact IS d hk x n hn
 |opens x=>exact Gp d hk x (by have:=hl x (by simp);omega)
 |o1 x y n s hn=>exact Gr d hk x y n s hn
 |_=>cases hc
theorem MP (d:Dk) (hk:k7 d=true) (l:lU) (hl:l.length<=1000000) (va vk:Nat):fK pG 60 (zn va vk d) [.ptr 1900000006 0 0 0,eS l] (fun r m'=>r=eS (nZ d l).2/\m'=zn (va+1) (vk+1) (nZ d l).1):=by
 refine fK.dk (fK.sU 45 [.tmp 4] func60 rfl rfl rfl rfl rfl (oT rfl) (by decide) ?_);have hp:=Fn.shared (Ix l (by omega));have hw:=u9 (s:=l);rw [gQ];have t1:(d.a.map aQ).take d.a.length=d.a.map aQ:=cK (by simp);have t2:(d.k.map aQ).take d.k.length=d.k.map aQ:=cK (by simp);rcases hb:(fj l).2.2 with _|_
 . have hR:nZ d l=(d,yR 6):=by unfold nZ;rw [yQ hb]
   rw [hR];have hi6:=cO (v:=6) (by unfold km;omega);rw [hb] at hp;have h6:=kV (n:=6) (by unfold km;omega);generalize fj l=p at*;simp only [yR];simp -dsimp -implicitDefEqProofs only [go_sem,uq4];refine av hp (by simp [ax,an,aG]) ?_;simp -dsimp -implicitDefEqProofs only [go_sem];refine aa h6 ?_;simp -dsimp -implicitDefEqProofs only [go_sem];((with_reducible and_intros);all_goals try (omega));((refine o4 (oa:=some 1900000500) (oc:=some 1900000501) rfl ?_ (dX.mk ?_ rfl) (dX.mk ?_ rfl) ?_ ?_ ?_ ⟨rfl,rfl,?_,?_⟩);all_goals first|exact rfl|(simp;done)|skip)
 obtain ⟨c,hco,hcm⟩:=yP hb;have hR:nZ d l=VC d c:=by unfold nZ;rw [hco]
 rw [hR];rw [hb] at hp;have Dn:=fun h=>Qo d hk hcm h (fun w hm=>by have:=hw w hm;omega) va vk;have zA:=fun h=>Xf d hk hcm h fun w hm=>by have:=hw w hm;omega
 obtain ⟨w0,g0,hhd⟩:=hcm.head;have hcc:=B5 d c;have hca:=yU [] d c;have hlen:0<(fj l).1.length:=(List.getElem?_eq_some_iff.1 g0).1;clear hcm hco hR;generalize fj l=p at*;obtain ⟨ws,ns,b⟩:=p;simp only at hp Dn zA g0 hb hlen;subst hb;clear hw;unfold VC;rcases hhd with ⟨hch,hwd⟩|⟨hch,n1,n2,n3,n4⟩
 . have hq:=Dn hch;rw [if_pos hch];clear Dn zA hca;have hd':(dQ d c).2≠0->(dQ d c).1=d:=MO d c;generalize dQ d c=q at*;by_cases hc:q.2=0
   . rw [if_pos hc];rw [hc] at hq;have e0:((0:Int) != 0)=false:=rfl;rcases nG hwd with w1|⟨w1,w2⟩|⟨w1,w2,w3⟩|⟨w1,w2,w3,w4⟩
     all_goals (
      simp -dsimp -implicitDefEqProofs only [go_sem,uq4];refine av hp (by simp [ax,an,aG]) ?_;simp -dsimp -implicitDefEqProofs only [go_sem, *];((with_reducible and_intros);all_goals try (omega));refine cW hq ⟨⟨?_,?_⟩,?_,?_⟩ ?_
      . simp -dsimp -implicitDefEqProofs only [go_sem,kN]
      . simp -dsimp -implicitDefEqProofs only [go_sem,gQ,uq4];all_goals try (simp;done)
      . simp -dsimp -implicitDefEqProofs only [go_sem,gQ,uq4]
      . simp -dsimp -implicitDefEqProofs only [go_sem,kN];all_goals try (simp;done)
      rintro r m' ⟨hr,hm'⟩;rw [hr,hm'];simp only [zn,gQ];simp -dsimp -implicitDefEqProofs only [go_sem,uq4,e0]
      ((refine o4 (oa:=some 1900000500) (oc:=some 1900000501) rfl ?_ (dX.mk ?_ rfl) (dX.mk ?_ rfl) ?_ ?_ ?_ ⟨rfl,rfl,?_,?_⟩);all_goals first|exact rfl|(simp;done)|skip))
   rw [if_neg hc];rw [hd' hc] at hq;have e0:(q.2 != 0)=true:=bne_iff_ne.2 hc;have hd:=kV (n:=q.2) (by unfold km;omega);have hi6:=cO (v:=q.2) (by unfold km;omega);simp only [yR];rcases nG hwd with w1|⟨w1,w2⟩|⟨w1,w2,w3⟩|⟨w1,w2,w3,w4⟩
   all_goals (
    simp -dsimp -implicitDefEqProofs only [go_sem,uq4];refine av hp (by simp [ax,an,aG]) ?_;simp -dsimp -implicitDefEqProofs only [go_sem, *];((with_reducible and_intros);all_goals try (omega));refine cW hq ⟨⟨?_,?_⟩,?_,?_⟩ ?_
    . simp -dsimp -implicitDefEqProofs only [go_sem,kN]
    . simp -dsimp -implicitDefEqProofs only [go_sem,gQ,uq4];all_goals try (simp;done)
    . simp -dsimp -implicitDefEqProofs only [go_sem,gQ,uq4]
    . simp -dsimp -implicitDefEqProofs only [go_sem,kN];all_goals try (simp;done)
    rintro r m' ⟨hr,hm'⟩;rw [hr,hm'];simp only [zn,gQ];simp -dsimp -implicitDefEqProofs only [go_sem,uq4,e0];refine aa hd ?_;simp -dsimp -implicitDefEqProofs only [go_sem];((with_reducible and_intros);all_goals try (omega))
    ((refine o4 (oa:=some 1900000500) (oc:=some 1900000501) rfl ?_ (dX.mk ?_ rfl) (dX.mk ?_ rfl) ?_ ?_ ?_ ⟨rfl,rfl,?_,?_⟩);all_goals first|exact rfl|(simp;done)|skip))
 have hq:=zA hch;rw [if_neg (by rw [hch];simp)];have w1:decide (w0=[109,97,107,101,114])=false:=dF n1;have w2:decide (w0=[107,101,121])=false:=dF n2;have w3:decide (w0=[100,114,111,112])=false:=dF n3;have w4:decide (w0=[102,105,110,100])=false:=dF n4;clear Dn zA hcc n1 n2 n3 n4;generalize bY [] d c=q' at*;by_cases hc:q'.2=0
 . rw [if_pos hc];rw [hc] at hq;have e0:((0:Int) != 0)=false:=rfl;simp -dsimp -implicitDefEqProofs only [go_sem,uq4];refine av hp (by simp [ax,an,aG]) ?_;simp -dsimp -implicitDefEqProofs only [go_sem,g0,w1,w2,w3,w4];((with_reducible and_intros);all_goals try (omega));refine xU (r:=.aX [eS q'.1,eI 0]) (cells:=[eI d.m.af,eI d.m.ao,eI d.m.step,eI d.m.same,eI d.m.least,aR d.a,aR d.k]) ?_ rfl ?_ ?_ ?_
   . exact hq
   . simp -dsimp -implicitDefEqProofs only [go_sem,t1,t2]
   . simp [aq,an]
   simp -dsimp -implicitDefEqProofs only [go_sem,e0];((refine o4 (oa:=some 1900000500) (oc:=some 1900000501) rfl ?_ (dX.mk ?_ rfl) (dX.mk ?_ rfl) ?_ ?_ ?_ ⟨rfl,rfl,?_,?_⟩);all_goals first|exact rfl|(simp;done)|skip)
 rw [if_neg hc];have e0:(q'.2 != 0)=true:=bne_iff_ne.2 hc;have hd:=kV (n:=q'.2) (by unfold km;omega);have hi6:=cO (v:=q'.2) (by unfold km;omega);simp only [yR];simp -dsimp -implicitDefEqProofs only [go_sem,uq4];refine av hp (by simp [ax,an,aG]) ?_;simp -dsimp -implicitDefEqProofs only [go_sem,g0,w1,w2,w3,w4];((with_reducible and_intros);all_goals try (omega));refine xU (r:=.aX [eS q'.1,eI q'.2]) (cells:=[eI d.m.af,eI d.m.ao,eI d.m.step,eI d.m.same,eI d.m.least,aR d.a,aR d.k]) ?_ rfl ?_ ?_ ?_
 . exact hq
 . simp -dsimp -implicitDefEqProofs only [go_sem,t1,t2]
 . simp [aq,an]
 simp -dsimp -implicitDefEqProofs only [go_sem,e0];refine aa hd ?_;simp -dsimp -implicitDefEqProofs only [go_sem];((with_reducible and_intros);all_goals try (omega));((refine o4 (oa:=some 1900000500) (oc:=some 1900000501) rfl ?_ (dX.mk ?_ rfl) (dX.mk ?_ rfl) ?_ ?_ ?_ ⟨rfl,rfl,?_,?_⟩);all_goals first|exact rfl|(simp;done)|skip)
theorem MQ (s:lU):(nS s).length<=s.length:=by
 unfold nS;split
 . simp
 exact Nat.le_refl _
theorem Xg (s:lU) (h:s.length<=1048576):Fn pG 32 [eS s] true (· = .aX [mK (Qm s).1,lZ (lQ s).1,eI (lQ s).2]):=by
 refine Fn.au 41 [.cell 2 26,.tmp 3,.tmp 4] func32 (hv:= ?_);have ht:=CX s h;have hsp:=Fn.shared (JK (nS s) 10 (by have:=MQ s;omega));have hls:=IB s;have hb:=yx s;unfold Qm lQ;by_cases h0:s=[]
 . subst h0;rw [if_pos rfl] at hls;have e1:(decide (([]:lU).length<=3000)&&decide ((fm []).length<=50))=true:=by rw [←hls];rfl
   rw [if_pos e1,if_pos e1,←hls];clear e1 hls hb;have d0:decide (([]:lU)=[])=true:=rfl;have d1:decide ((0:Int)>3000)=false:=rfl;have d2:decide ((0:Int)>50)=false:=rfl;have et:nS []=[]:=rfl;rw [et] at ht hsp;have en:eU []=(QU,[]):=rfl;rw [en];simp -dsimp -implicitDefEqProofs only [go_sem];refine aa ht ?_;simp -dsimp -implicitDefEqProofs only [go_sem];refine av hsp (by simp [ax,an,aG]) ?_;simp -dsimp -implicitDefEqProofs only [go_sem,d1,d2,uq5];refine aj.up [2,6,27,28] [35,36,37] [26,6,500,501] 0 (fun _=>True) (fun _=>[(29,eI 0),(7,.ref 26 0 0 0)]) (fun _=>[(26,.row 0 ⟨1,false⟩ true []),(6,.box 0 [eI 4,eI 5,eI 3,eI 2,eI 2,.ref 500 0 0 0,.ref 501 0 0 0]),(500,.row 0 ⟨1,false⟩ true []),(501,.row 0 ⟨1,false⟩ true [])]) trivial ?_ rfl (fun i hi _=>absurd hi (Nat.not_lt_zero _)) (fun _=> ?_)
   . simp -dsimp -implicitDefEqProofs only [go_sem]
   have dz:decide ((0:Int)<0)=false:=rfl;unfold QU;simp -dsimp -implicitDefEqProofs only [pz,cF,bf,bu,↓reduceIte,cj];simp -dsimp -implicitDefEqProofs only [go_sem,dz,List.take_nil];((with_reducible and_intros);all_goals try (exact rfl));all_goals (first|(simp;done)|skip)
 rw [if_neg h0] at hls;rw [hls] at hsp;have d0:decide (s=[])=false:=dF h0;have l0:¬s.length=0:=fun e=>h0 (List.eq_nil_of_length_eq_zero e);generalize hL:fm s=ls at*;rcases d1:decide ((s.length:Int)>3000) with _|_
 . have d1':=of_decide_eq_false d1;rcases d2:decide ((ls.length:Int)>50) with _|_
   . have d2':=of_decide_eq_false d2;have e1:(decide (s.length<=3000)&&decide (ls.length<=50))=true:=by simp only [uq0,decide_eq_true_eq];omega
     rw [if_pos e1,if_pos e1];simp -dsimp -implicitDefEqProofs only [go_sem];refine aa ht ?_;simp -dsimp -implicitDefEqProofs only [go_sem];refine av hsp (by simp [ax,an,aG]) ?_;simp -dsimp -implicitDefEqProofs only [go_sem,d0,d1,d2]
     refine aj.up [2,6,27,28] [35,36,37] [26,6,500,501] ls.length (fun _=>True) (fun i=>[(29,eI i),(7,.ref 26 0 0 i)])
      (fun i=>[(26,.row 0 ⟨1,false⟩ true ((eU (ls.take i)).2.map eS)),(6,.box 0 [eI (eU (ls.take i)).1.m.af,eI (eU (ls.take i)).1.m.ao,eI (eU (ls.take i)).1.m.step,eI (eU (ls.take i)).1.m.same,eI (eU (ls.take i)).1.m.least,.ref 500 0 0 (eU (ls.take i)).1.a.length,.ref 501 0 0 (eU (ls.take i)).1.k.length]),
        (500,.row 0 ⟨1,false⟩ true ((eU (ls.take i)).1.a.map aQ)),(501,.row 0 ⟨1,false⟩ true ((eU (ls.take i)).1.k.map aQ))]) trivial ?_ rfl (fun i hi _=> ?_) (fun _=> ?_)
     . rw [dt,yT];unfold QU;simp -dsimp -implicitDefEqProofs only [go_sem,uq5,uq8]
     . have gi:=get_some hi;have li:=aE hi;have cJ:=MP (eU (ls.take i)).1 (C7 ls i) ls[i] (by have:=hb.2 _ (List.getElem_mem hi);omega) 0 0;have hst:=tz hi;unfold yS at hst;have hl1:(eU (ls.take i)).2.length=i:=by rw [vJ];simp;omega
       rw [hst];clear hst;generalize eU (ls.take i)=p at*;generalize ls[i]=l at*;generalize nZ p.1 l=r at*;have tP:(p.2.map eS).take i=p.2.map eS:=cK (by simp;omega);have eM:(p.2++[r.2]).map eS=p.2.map eS++[eS r.2]:=by simp
       rw [eM];simp only [zn,gQ] at cJ;simp -dsimp -implicitDefEqProofs only [pz,cF,bf,bu,↓reduceIte,cj];simp -dsimp -implicitDefEqProofs only [go_sem,gi,li];((with_reducible and_intros);all_goals try (omega));refine ji 1900000000 cJ ⟨?_,?_⟩ ⟨⟨?_,?_⟩,?_,?_⟩ ?_
       . simp -dsimp -implicitDefEqProofs only [go_sem]
       . simp -dsimp -implicitDefEqProofs only [go_sem]
       . simp -dsimp -implicitDefEqProofs only [go_sem]
       . simp -dsimp -implicitDefEqProofs only [go_sem];all_goals try (simp;done)
       . simp -dsimp -implicitDefEqProofs only [go_sem,uq4]
       . simp -dsimp -implicitDefEqProofs only [go_sem];all_goals try (simp;done)
       rintro r' m' ⟨hr,hm'⟩;rw [hr,hm'];simp -dsimp -implicitDefEqProofs only [go_sem,uq4];((with_reducible and_intros);all_goals try first|omega|(refine ⟨?_,?_⟩<;>omega)|exact rfl);all_goals first|(rw [tP];done)|(first|omega|(refine ⟨?_,?_⟩<;>omega)|exact rfl|(simp;done)|skip)
     rw [List.take_length];have hl1:(eU ls).2.length=ls.length:=vJ ls;generalize eU ls=p at*;have tP:(p.2.map eS).take ls.length=p.2.map eS:=cK (by simp;omega);have tA:(p.1.a.map aQ).take p.1.a.length=p.1.a.map aQ:=cK (by simp);have tK:(p.1.k.map aQ).take p.1.k.length=p.1.k.map aQ:=cK (by simp);simp -dsimp -implicitDefEqProofs only [pz,cF,bf,bu,↓reduceIte,cj];simp -dsimp -implicitDefEqProofs only [go_sem,aA,tP,tA,tK];((with_reducible and_intros);all_goals try (omega));all_goals (first|(simp;done)|skip)
   have d2':=oT d2;have e1:¬(decide (s.length<=3000)&&decide (ls.length<=50))=true:=by simp only [uq0,decide_eq_true_eq];omega
   rw [if_neg e1,if_neg e1];simp -dsimp -implicitDefEqProofs only [go_sem];refine aa ht ?_;simp -dsimp -implicitDefEqProofs only [go_sem];refine av hsp (by simp [ax,an,aG]) ?_;simp -dsimp -implicitDefEqProofs only [go_sem,d0,d1,d2]
 have d1':=oT d1;have e1:¬(decide (s.length<=3000)&&decide (ls.length<=50))=true:=by simp only [uq0,decide_eq_true_eq];omega
 rw [if_neg e1,if_neg e1];simp -dsimp -implicitDefEqProofs only [go_sem];refine aa ht ?_;simp -dsimp -implicitDefEqProofs only [go_sem];refine av hsp (by simp [ax,an,aG]) ?_;simp -dsimp -implicitDefEqProofs only [go_sem,d0,d1]
theorem zu (s:lU) (h:s.length<=1048576):Fn pG 14 [eS s] true (· = .aX [lZ (lQ s).1,eI (lQ s).2]):=by refine Fn.au 15 [.tmp 2,.tmp 3] func14 (hv:= ?_);have hr:=Xg s h;generalize Qm s=D at*;generalize lQ s=O at*;have tO:(O.1.map eS).take O.1.length=O.1.map eS:=cK (by simp);simp -dsimp -implicitDefEqProofs only [go_sem];refine aa hr ?_;simp -dsimp -implicitDefEqProofs only [go_sem,tO,uq4];all_goals (first|(simp;done)|skip)
theorem De (xs:List lU) (h:xs.length<=9223372036854775807):Fn pG 25 [lZ xs,lZ xs] true (· =eB true):=by
 refine Fn.au 26 [.tmp 4] func25 (hv:= ?_);have hne:((xs.length:Int) != (xs.length:Int))=false:=by simp
 simp -dsimp -implicitDefEqProofs only [go_sem,hne];refine aj.up [0,1] [13] [] xs.length (fun _=>True) (fun i=>[(5,eI i)]) (fun _=>[]) trivial ?_ rfl (fun i hi _=> ?_) (fun _=> ?_)
 . simp -dsimp -implicitDefEqProofs only [go_sem]
 . have gi:=get_some hi;generalize xs[i]=x at*;have hx:decide (x=x)=true:=dT rfl;simp -dsimp -implicitDefEqProofs only [pz,↓reduceIte,cj];simp -dsimp -implicitDefEqProofs only [go_sem,aE hi];refine aj.draw mixed rfl ?_;simp -dsimp -implicitDefEqProofs only [go_sem,gi];((with_reducible and_intros);all_goals try first|omega|(refine ⟨?_,?_⟩<;>omega)|exact rfl)
 simp -dsimp -implicitDefEqProofs only [pz,↓reduceIte,cj];simp -dsimp -implicitDefEqProofs only [go_sem,aA]
def Gz:Nat->Nat->lU
 |0,_=>[]
 |f+1,k=>if k=0 then [] else Gz f (k / 10)++[UInt8.ofNat (48+k%10)]
def vx (k:Nat):lU:=if k=0 then [109,48] else 109::Gz 10 k
theorem yV (k:Nat) (h:k<=100000):Fn pG 54 [eI k] true (· =eS (vx k)):=by
 refine Fn.au 20 [.tmp 2] func54 (hv:= ?_);unfold vx;by_cases h0:k=0
 . subst h0;have d0:decide ((0:Int)<=0)=true:=rfl;simp -dsimp -implicitDefEqProofs only [go_sem,d0]
 rw [if_neg h0];have d0:decide ((k:Int)<=0)=false:=dF (by omega);simp -dsimp -implicitDefEqProofs only [go_sem,d0];refine aj.lp [] [12] [] (fun x:Nat × lU × Nat=>Gz x.2.2 x.1++x.2.1=Gz 10 k/\x.2.2<=10/\x.1<10^x.2.2/\x.2.1.length<=10-x.2.2) (fun x=>[(0,eI x.1),(3,eS x.2.1)]) (fun _=>[]) (fun x=>x.2.2) (k,[],10) ⟨by simp,Nat.le_refl _,by simp only;omega,by simp⟩ ?_ rfl (fun x hx=> ?_)
 . simp -dsimp -implicitDefEqProofs only [go_sem]
 obtain ⟨n,out,f⟩:=x;obtain ⟨x1,x2,x3,x4⟩:=hx;simp only at x1 x2 x3 x4;by_cases hn:n=0
 . subst hn;have hd:decide ((0:Int)>0)=false:=rfl;have e:Gz f 0=[]:=by cases f<;>rfl
   rw [e,List.nil_append] at x1;rw [←x1];simp -dsimp -implicitDefEqProofs only [oH,mA,List.cons_append,List.nil_append];simp -dsimp -implicitDefEqProofs only [go_sem,hd];(all_goals try (omega))
 have hd:decide ((n:Int)>0)=true:=dT (by omega);have hq:(n:Int).tdiv 10=((n / 10:Nat):Int):=by rw [Int.tdiv_eq_ediv_of_nonneg (by omega)];omega
 have hr:(n:Int).tmod 10=((n%10:Nat):Int):=by rw [Int.tmod_eq_emod_of_nonneg (by omega)];omega
 have hw:IntKind.u8.wrap (48+((n%10:Nat):Int))=48+((n%10:Nat):Int):=nC (by omega);have ht:(48+((n%10:Nat):Int)).toNat=48+n%10:=by omega
 obtain ⟨f,rfl⟩:∃g,f=g+1:=by
  cases f with
  |zero=>simp at x3;omega
  |succ g=>exact ⟨g,rfl⟩
 rw [Gz,if_neg hn] at x1;have hb:n<=10000000000:=by have:10^(f+1)<=10^10:=Nat.pow_le_pow_right (by omega) x2;omega
 have hz:n%10<10:=Nat.mod_lt _ (by decide);have YP:n / 10<10^f:=by rw [Nat.div_lt_iff_lt_mul (by omega),←Nat.pow_succ];exact x3
 have hI:Gz f (n / 10)++(UInt8.ofNat (48+n%10)::out)=Gz 10 k:=by rw [←x1];simp
 simp -dsimp -implicitDefEqProofs only [oH,mA,List.cons_append,List.nil_append];simp -dsimp -implicitDefEqProofs only [go_sem,hd,hq,hr,hw,ht];((with_reducible and_intros);all_goals try first|omega|(refine ⟨?_,?_⟩<;>omega));refine ⟨(n / 10,UInt8.ofNat (48+n%10)::out,f),⟨hI,show f<=10 by omega,YP,?_⟩,?_,rfl,?_⟩;all_goals first|(simp;done)|(simp only [uq3];omega)|skip
def nH (k n:Nat):List lU:=(List.range n).map fun i=>vx (k+i)
theorem yW (k n:Nat):(nH k n).length=n:=by simp [nH]
theorem zv (xs:List lU) (k v:Nat) (hk:k<=1000) (h:xs.length<=1000):
 rJ pG 26 [.row v ⟨1,false⟩ true (xs.map eS)] [.ref 1000000000 v 0 xs.length,eI k] (fun x io=>x=eI ((k+xs.length:Nat):Int)/\io=[.row v ⟨1,false⟩ true ((nH k xs.length).map eS)]):=by
 refine rJ.au 20 [.tmp 4] func26 (hv:= ?_);simp -dsimp -implicitDefEqProofs only [go_sem];refine aj.up [0] [8,15] [1000000000] xs.length (fun _=>True) (fun i=>[(5,eI i),(1,eI ((k+i:Nat):Int))]) (fun i=>[(1000000000,.row v ⟨1,false⟩ true (JG (fun i:Nat=>eS (vx (k+i))) (xs.map eS) i))]) trivial ?_ rfl (fun i hi _=> ?_) (fun _=> ?_)
 . simp -dsimp -implicitDefEqProofs only [go_sem,Pk,Nat.add_zero]
 . have hi2:i<(xs.map eS).length:=by simpa using hi
   have g0:=SD (fun i:Nat=>eS (vx (k+i))) (xs.map eS) i hi2;have g1:=SE (fun i:Nat=>eS (vx (k+i))) (xs.map eS) i hi2;have hl:=SC (fun i:Nat=>eS (vx (k+i))) (xs.map eS) i (by omega);have hm:=yV (k+i) (by omega);have e1:((k+i:Nat):Int)+1=((k+(i+1):Nat):Int):=by omega
   rw [List.getElem_map] at g0;generalize JG (fun i:Nat=>eS (vx (k+i))) (xs.map eS) i=M at*;rw [←g1];simp -dsimp -implicitDefEqProofs only [pz,cF,bf,bu,↓reduceIte,cj];simp -dsimp -implicitDefEqProofs only [go_sem,aE hi];refine aa hm ?_;simp -dsimp -implicitDefEqProofs only [go_sem,g0,e1];((with_reducible and_intros);all_goals try first|omega|(refine ⟨?_,?_⟩<;>omega)|exact rfl)
 simp -dsimp -implicitDefEqProofs only [pz,cF,bf,bu,↓reduceIte,cj];simp -dsimp -implicitDefEqProofs only [go_sem,aA,SB _ _ _ (show (xs.map eS).length<=xs.length by simp)]
 all_goals first
  |(simp [nH,List.map_map,Function.comp_def];done)
  |(first|omega|(refine ⟨?_,?_⟩<;>omega)|exact rfl|(simp;done)|skip)
theorem zw (n k:Nat) (hk:k<=1000) (h:n<=1000):Fn pG 27 [lZ (nH k n),eI k] true (· =eI ((k+n:Nat):Int)):=by
 refine Fn.au 22 [.tmp 4] func27 (hv:= ?_);have hl:=yW k n;simp -dsimp -implicitDefEqProofs only [go_sem];refine aj.up [0] [8,17] [] n (fun _=>True) (fun i=>[(5,eI i),(1,eI ((k+i:Nat):Int))]) (fun _=>[]) trivial ?_ rfl (fun i hi _=> ?_) (fun _=> ?_)
 . simp -dsimp -implicitDefEqProofs only [go_sem,Nat.add_zero]
 . have g0:(nH k n)[i]? =some (vx (k+i)):=by simp [nH,hi]
   have hm:=yV (k+i) (by omega);have e1:((k+i:Nat):Int)+1=((k+(i+1):Nat):Int):=by omega
   have lm:=aE hi;have hx:decide (vx (k+i)=vx (k+i))=true:=dT rfl;generalize vx (k+i)=x at*;simp -dsimp -implicitDefEqProofs only [pz,↓reduceIte,cj];simp -dsimp -implicitDefEqProofs only [go_sem,hl,lm];refine aj.draw mixed rfl ?_;simp -dsimp -implicitDefEqProofs only [go_sem,hl,g0];((with_reducible and_intros);all_goals try (omega));refine ak hm ?_;simp -dsimp -implicitDefEqProofs only [go_sem,e1];((with_reducible and_intros);all_goals try first|(refine ⟨?_,?_⟩<;>omega)|exact rfl)
 simp -dsimp -implicitDefEqProofs only [pz,↓reduceIte,cj];simp -dsimp -implicitDefEqProofs only [go_sem,hl,aA]
theorem MR (s:lU):(lQ s).1.length<=50:=by
 unfold lQ;split
 . rename_i h;simp only [uq0,decide_eq_true_eq] at h;simp only [vJ];exact h.2
 simp
theorem pP (s:lU):Fn pG 6 [eS s] true (· =eB true):=by
 refine Fn.au 66 [.tmp 2] func6 (hv:= ?_);rcases hk:decide ((s.length:Int)>1048576) with _|_
 . have h1:=of_decide_eq_false hk;have cs:=zt s (by omega);have ci:=zu s (by omega);have hl:=MR s;generalize lQ s=O at*;obtain ⟨O,c⟩:=O;simp only at cs ci hl;have heq:=De O (by omega);have ko:=fun v=>zv O 1 v (by omega) (by omega);have hhd:=zw O.length 1 (by omega) (by omega);have hml:=yW 1 O.length;have tO:(O.map eS).take O.length=O.map eS:=cK (by simp);have tM:((nH 1 O.length).map eS).take O.length=(nH 1 O.length).map eS:=cK (by simp [hml]);have e0:(c != c)=false:=by simp
   have e1:decide (((1+O.length:Nat):Int)<0)=false:=dF (by omega);have e2:(((1+O.length:Nat):Int) != ((1+O.length:Nat):Int))=false:=by simp
   simp -dsimp -implicitDefEqProofs only [go_sem,hk];refine av cs (by simp [ax,an,aG]) ?_;simp -dsimp -implicitDefEqProofs only [go_sem];refine aa ci ?_;simp -dsimp -implicitDefEqProofs only [go_sem,tO,uq4];refine aa heq ?_;simp -dsimp -implicitDefEqProofs only [go_sem,e0];refine sI [22000] ?_;simp -dsimp -implicitDefEqProofs only [go_sem];refine xn (ko _) ?_;simp -dsimp -implicitDefEqProofs only [go_sem,tM,hml,uq4];refine aa hhd ?_;simp -dsimp -implicitDefEqProofs only [go_sem,e1,e2];refine aa ci ?_;simp -dsimp -implicitDefEqProofs only [go_sem,tO,uq4];refine aa heq ?_;simp -dsimp -implicitDefEqProofs only [go_sem,e0,tM,hml,uq4];refine aa hhd ?_;simp -dsimp -implicitDefEqProofs only [go_sem,e1,e2]
 simp -dsimp -implicitDefEqProofs only [go_sem,hk]
end Go.Vc
namespace Go.Proofs.YtofpaabacebkkaaGreatDoor.fnExactRunConsole
open Go.Vc Go.ChangeShapes Go.WideShapes Go.ChangeAt Go.RowKit
open Go.ChangeMaps (open_string shut_string)
set_option maxRecDepth 100000 in
theorem lifted (os:Os) (started:os.Started) (H:Type) (enc:TypeId × Value->H):
 ReturnsInHanded {} Tryz.checked os 6 .any (fun w args=>(Rows.fnExactRunConsoleSpec.pre enc pG Tryz.f6 [] false w args/\laidMetH pG laidAll w)/\sizedMet enc pG Tryz.f6 (OpenSpec.ofChange Rows.fnExactRunConsoleSpec) false w args)
  (Rows.fnExactRunConsoleSpec.post enc pG Tryz.f6 false true false false):=by
 refine HM (C:=Tryz.checked) (X:=fun w _=>laidMetH pG laidAll w) (fun _ _ _ hh h=>h.of_heap hh) own started (by kernel_rfl) func6
  (ChangeSpec.witness_shaped (enc:=enc) (C:=Tryz.checked) (os:=os) (X:=fun w _=>laidMetH pG laidAll w) false (World.laidAll pG os laidAll) #[.string ⟨#[]⟩] 8 (World.laidAll_os _ _ _)
    (xI os _) (by kernel_rfl) (by kernel_rfl) (by kernel_rfl) (E0 os _)) ?_
 intro W base args ds gs before Ue hW _ _ hL hSh _;have S6:∀(j:Nat) t v,Tryz.f6.params[j]? =some t->args[j]? =some v->Value.okWide pG W .any base t v:=Ue;have hW':=hW;obtain ⟨p,q,hA0,hV,rfl,hfz,hnd⟩:=hW;have hA:DataW.TrodAll enc pG W 0 (fun _=>true) true Tryz.f6.params.toList args.toList ds p:=hA0;rw [Tryz.params6] at hA S6;obtain ⟨v0,vs0,d0,ds0,p0,q0,Y3,rfl,rfl,h0,r0⟩:=trodAll_cons hA;obtain ⟨rfl,rfl,rfl⟩:=trodAll_nil r0;obtain rfl:args= #[v0]:=by cases args;simp_all
 obtain ⟨rfl,rfl⟩:=trodVars_none hV;have k0:=h0;have lt0:∀x∈p0,x.block<W.heap.size:=by obtain ⟨m,hm⟩:=k0;exact DataW.trod_lt m _ _ _ hm
 obtain ⟨x0,ok0,rd0⟩:=SG.arg false (fun _=>rfl) h0 (by obtain ⟨_,e⟩:=okWide_string underlying9 (S6 0 9 v0 rfl rfl);subst e;rfl);clear hA0 Ue
 refine (Fn.law (pP x0) W (Sq hL hSh) #[v0] rfl (fun i hi=>match i,hi with
  |0,_=>rd0)).mono fun e W' ⟨he,bel⟩=> ?_
 subst he;exact ⟨_,rfl,_,_,_,[],_,[],hW',trodAll_mk1 (shut_bool underlying4 _),(trodAll_cons_mk (Below.trod laidOut (by kernel_rfl) (oT (by kernel_rfl)) k0 bel lt0) trodAll_mk0),rfl,bel.frame _,fun h=>by cases h⟩
end Go.Proofs.YtofpaabacebkkaaGreatDoor.fnExactRunConsole
namespace Go.Proofs.YtofpaabacebkkaaGreatDoor.fnExactRunConsole
open Go.Vc Go.ChangeShapes Go.WideShapes Go.ChangeAt Go.RowKit
open Go.ChangeMaps (open_string shut_string)
theorem MS:(Rows.fnExactRunConsoleRow.inPlace==Tryz.pinned.checked.prog.inPlace 6)=true:=by kernel_rfl
theorem Xh:(Rows.fnExactRunConsoleRow.unfollowed==Tryz.pinned.checked.prog.unfollowed 6)=true:=by kernel_rfl
end Go.Proofs.YtofpaabacebkkaaGreatDoor.fnExactRunConsole
namespace Go.Proofs.YtofpaabacebkkaaGreatDoor.fnExactRunConsole
open Go.Vc Go.ChangeShapes Go.WideShapes Go.ChangeAt Go.RowKit
open Go.ChangeMaps (open_string shut_string)
theorem Xi:(Rows.fnExactRunConsoleRow.recurses==Tryz.pinned.checked.prog.recurses 6)=true:=by kernel_rfl
theorem S4:(Rows.fnExactRunConsoleRow.named==Tryz.pinned.checked.prog.varsNamed 6)=true:=by kernel_rfl
end Go.Proofs.YtofpaabacebkkaaGreatDoor.fnExactRunConsole
namespace Go.Proofs.YtofpaabacebkkaaGreatDoor.fnExactRunConsole
open Go.Vc Go.ChangeShapes Go.WideShapes Go.ChangeAt Go.RowKit
open Go.ChangeMaps (open_string shut_string)
theorem closed:joinedFacts Tryz.pinned.checked.prog 6 Tryz.f6 Rows.fnExactRunConsoleSpec Rows.fnExactRunConsoleRow=true:=by
 unfold joinedFacts;rw [MS,Xh,Xi,S4]
 kernel_rfl
theorem holds:Rows.fnExactRunConsoleRow.holds Tryz.pinned (OpenSpec.ofChange Rows.fnExactRunConsoleSpec):=
 OpenClaim.holds_of_wide 6 Tryz.f6 rfl rfl rfl rfl rfl rfl rfl ⟨rfl,rfl,rfl,rfl,rfl⟩ rfl rfl rfl rfl rfl (by kernel_rfl) func6 closed
  (oT (by kernel_rfl)) (by unfold Func.isWrapper;(rw [if_neg (by decide+kernel)];exact ⟨rfl,rfl⟩))
  (fun os started H enc _=>lifted os started H enc)
end Go.Proofs.YtofpaabacebkkaaGreatDoor.fnExactRunConsole
