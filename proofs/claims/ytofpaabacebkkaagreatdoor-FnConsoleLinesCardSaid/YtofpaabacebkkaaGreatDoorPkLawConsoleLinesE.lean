import Derived.Test.YtofpaabacebkkaaGreatDoorPkLawConsoleLinesD
open Go.Proofs.Tryz
open Go.Proofs.Tryz renaming prog → pG
set_option linter.unusedVariables false
set_option linter.unusedSimpArgs false
set_option linter.unnecessarySimpa false
set_option maxRecDepth 1000000
set_option maxHeartbeats 16000000
open Bool renaming and_eq_true->uq0
open List renaming all_eq_true->uq1,drop_succ_cons->uq2,drop_zero->uq3,getD_eq_getElem?_getD->uq4,getElem?_eq_getElem->uq5,getElem_mem->uq6,length_append->uq7,map->uq8,map_take->uq9,mem_append->bj,mem_cons_self->dR,mem_range->b6,mem_singleton->bI,range->bd,range_succ->bm,take->cP,take_length->dw,take_of_length_le->cQ,take_succ_cons->gW,take_succ_eq_append_getElem->fq,take_zero->db
open Nat renaming le_refl->bt,pow_le_pow_right->dD,reduceAdd->e7,reduceBEq->cm,reduceDiv->ft,reduceEqDiff->eX
open Option renaming isSome_some->dc
namespace Go.Vc
open Go.Proofs
attribute [go_sem] Option.map_none Nat.sub_zero
def fj (x:Int):Int:=if x< -x then -x else x
def aZ (c:lI):Nat->Nat
 |0=>1
 |i+1=>if c.getD (i+1) 0=c.getD i 0 then aZ c i+1 else 1
theorem iq (c:lI) (i:Nat):1<=aZ c i/\aZ c i<=i+1/\(∀j,j<aZ c i->c.getD (i-j) 0=c.getD i 0)/\(aZ c i<i+1->c.getD (i-aZ c i) 0≠c.getD i 0):=by
 induction i with
 |zero=>exact ⟨bt _,bt _,λj hj=>by simp [aZ] at hj;subst hj;rfl,λh=>by simp [aZ] at h⟩
 |succ i ih=>
  obtain ⟨h1,h2,h3,h4⟩:=ih;simp only [aZ];split
  . rename_i e;refine ⟨by omega,by omega,λj hj=> ?_,λhj=> ?_⟩
    . rw [e];cases j with
      |zero=>exact e
      |succ j=>rw [show i+1-(j+1)=i-j by omega];exact h3 j (by omega)
    rw [e,show i+1-(aZ c i+1)=i-aZ c i by omega];exact h4 (by omega)
  rename_i e;refine ⟨by omega,by omega,λj hj=> ?_,λ_=> ?_⟩
  . have:j=0:=(by omega);subst this;rfl
  show c.getD i 0≠_;exact λh=>e h.symm
theorem yD (c:lI) (n i:Nat) (h:i<n):aZ (c.take n) i=aZ c i:=by
 have g:∀j,j<n->(c.take n).getD j 0=c.getD j 0:=λj hj=>by simp [uq4,hj]
 induction i with
 |zero=>rfl
 |succ i ih=>simp only [aZ];rw [g (i+1) h,g i (by omega),ih (by omega)]
def dA (c:lI) (i:Nat):Nat:=if i=0 then 0 else aZ c (i-1)
def dt (c:lI):Nat->Nat
 |0=>0
 |i+1=>if dt c i<aZ c i then aZ c i else dt c i
theorem Me (c:lI) (s:Int) (hs:0<=s) (n:Nat):decide ((dt c n:Int)>s)= !((bd n).all λi=>decide ((aZ c i:Int)<=s)):=by
 induction n with
 |zero=>simp [dt];omega
 |succ n ih=>
  rw [bh,Bool.not_and,←ih];simp only [dt];split
  . by_cases h:(aZ c n:Int)<=s
    . rw [decide_eq_true h,decide_eq_false (show ¬(dt c n:Int)>s by omega),decide_eq_false (show ¬(aZ c n:Int)>s by omega)];rfl
    rw [decide_eq_false h,decide_eq_true (show (aZ c n:Int)>s by omega)];simp
  by_cases h:(aZ c n:Int)<=s
  . rw [decide_eq_true h];simp
  rw [decide_eq_false h,decide_eq_true (show (dt c n:Int)>s by omega)];simp
def cw (m:aL) (c:lI) (i:Nat):Bool:=i==0||decide (fj (c.getD i 0-c.getD (i-1) 0)<=m.step)
def bf (c:lI) (n:Nat):Nat:=((bd n).filter λi=> !has (c.take i) (c.getD i 0)).length
theorem sO (c:lI) (i:Nat) (h:i<c.length):(bf c (i+1):Int)=if (!has (c.take i) c[i])=true then (bf c i:Int)+1 else bf c i:=by
 have g:c.getD i 0=c[i]:=by simp [uq4,h]
 rw [bf,bm,List.filter_append,List.filter_cons,g];split<;>simp [bf]
theorem jo (c:lI) (i:Nat):bf c i<=i:=by rw [bf];exact Nat.le_trans (List.length_filter_le _ _) (by simp)
def fault (m:aL) (c:lI):Int:=
 if (c.length:Int)≠m.ae then 1
 else if (c.all λx=>bx x 0 (m.ak-1))=false then 2
 else if ((bd c.length).all (cw m c))=false then 3
 else if ((bd c.length).all λi=>decide ((aZ c i:Int)<=m.same))=false then 4
 else if (bf c c.length:Int)<m.least then 5 else 0
attribute [irreducible] aZ dt bf
theorem FP (x:Int) (h: -1000<=x/\x<=1000):Fn pG 92 [eI x] true (· =eI (fj x)):=by
 refine Fn.av 7 [.tmp 2] func92 (hv:= ?_);simp -dsimp -implicitDefEqProofs only [go_sem];with_reducible and_intros
 all_goals first|(refine ⟨?_,?_⟩<;>omega)|(simp_all [fj];done)|skip
theorem jq (x:Int) (h: -1000<=x/\x<=1000):Fn pG 131 [eI x] true (· =eI (fj x)):=by
 refine Fn.av 7 [.tmp 2] func131 (hv:= ?_);simp -dsimp -implicitDefEqProofs only [go_sem];with_reducible and_intros
 all_goals first|(refine ⟨?_,?_⟩<;>omega)|(simp_all [fj];done)|skip
theorem qX (c:lI) (h:c.length<=1048576):Fn pG 93 [aP c] true (· =eI (bf c c.length)):=by
 refine Fn.av 23 [.tmp 2] func93 (hv:= ?_);simp -dsimp -implicitDefEqProofs only [go_sem];refine aj.up [0] [7,18] [] c.length (λ_=>True) (λi=>[(4,eI i),(3,eI (bf c i))]) (λ_=>[]) trivial ?_ rfl (λi hi _=> ?_) (λ_=> ?_)
 . simp -dsimp -implicitDefEqProofs only [go_sem];all_goals first|(simp [bf];done)|skip
 . have gi:=get_some hi;have li:=aE hi;have hs:=sO c i hi;have hle:=jo c i;simp -dsimp -implicitDefEqProofs only [pz,↓reduceIte,eX];rw [hs];clear hs;simp -dsimp -implicitDefEqProofs only [go_sem,li]
   repeat' first
    |(refine Br.intro (λ_=> ?_) (λ_=> ?_)<;>try simp -dsimp -implicitDefEqProofs only [go_sem, *])
    |(with_reducible refine ai ?_ ?_)
    |(refine aj.draw mixed rfl ?_;try simp -dsimp -implicitDefEqProofs only [go_sem, *])
    |(rw [←uq9];refine an (FJ (c.take i) c[i] (by simp;omega)) ?_;try simp -dsimp -implicitDefEqProofs only [go_sem, *])
   all_goals first
    |omega|(refine ⟨?_,?_⟩<;>omega)|(simp;done)
    |rfl
    |skip
 have hle:=jo c c.length;simp -dsimp -implicitDefEqProofs only [go_sem,ay]
theorem iF (c:lI) (h:c.length<=1048576):Fn pG 133 [aP c] true (· =eI (bf c c.length)):=by
 refine Fn.av 23 [.tmp 2] func133 (hv:= ?_);simp -dsimp -implicitDefEqProofs only [go_sem];refine aj.up [0,6,7] [17] [] c.length (λ_=>True) (λi=>[(8,eI i),(3,eI (bf c i))]) (λ_=>[]) trivial ?_ rfl (λi hi _=> ?_) (λ_=> ?_)
 . simp -dsimp -implicitDefEqProofs only [go_sem];all_goals first|(simp [bf];done)|skip
 . have gi:=get_some hi;have li:=aE hi;have hs:=sO c i hi;have hle:=jo c i;simp -dsimp -implicitDefEqProofs only [pz,↓reduceIte,eX];rw [hs];clear hs;simp -dsimp -implicitDefEqProofs only [go_sem,li,gi]
   repeat' first
    |(refine Br.intro (λ_=> ?_) (λ_=> ?_)<;>try simp -dsimp -implicitDefEqProofs only [go_sem, *])
    |(with_reducible refine ai ?_ ?_)
    |(rw [←uq9];refine aa (qT (c.take i) c[i] (by simp;omega)) ?_;try simp -dsimp -implicitDefEqProofs only [go_sem, *])
   all_goals first
    |omega|(refine ⟨?_,?_⟩<;>omega)|(simp;done)
    |skip
 have hle:=jo c c.length;simp -dsimp -implicitDefEqProofs only [go_sem,ay]
theorem kz (c:lI) (h0:0<c.length) (h:c.length<=1048576):Fn pG 132 [aP c] true (· =eI (aZ c (c.length-1))):=by
 refine Fn.av 28 [.tmp 2] func132 (hv:= ?_);obtain ⟨p1,p2,p3,p4⟩:=iq c (c.length-1);generalize hR:aZ c (c.length-1)=R at p1 p2 p3 p4;have gl:c[c.length-1]? =some (c.getD (c.length-1) 0):=by simp [uq4,show c.length-1<c.length by omega]
 generalize c.getD (c.length-1) 0=z at gl p3 p4;have q3:∀j,j<R->c[c.length-1-j]? =some z:=λj hj=>by rw [←p3 j hj];simp [uq4,show c.length-1-j<c.length by omega]
 have e1:((c.length:Int)-1).toNat=c.length-1:=by omega
 simp -dsimp -implicitDefEqProofs only [go_sem];refine aj.up [0] [6,11,19] [] (R-1) (λ_=>True) (λi=>[(3,eI ((i+1:Nat):Int))]) (λ_=>[]) trivial ?_ rfl (λi hi _=> ?_) (λ_=> ?_)
 . simp -dsimp -implicitDefEqProofs only [go_sem];all_goals first|(simp;done)|skip
 . have g:=q3 (i+1) (by omega);have li:decide (((i+1:Nat):Int)<(c.length:Int))=true:=dT (by omega);have e2:((c.length:Int)-1-((i+1:Nat):Int)).toNat=c.length-1-(i+1):=(by omega);clear q3 p3 p4;simp -dsimp -implicitDefEqProofs only [go_sem]
   repeat' first
    |(with_reducible refine ai ?_ ?_)
    |(refine aj.draw mixed rfl ?_;try simp -dsimp -implicitDefEqProofs only [go_sem,li,e1,e2,g,gl])
   all_goals first
    |omega|(refine ⟨?_,?_⟩<;>omega)|(simp;done)
    |rfl
    |skip
 have er:R-1+1=R:=by omega
 clear q3 p3;rw [er];simp -dsimp -implicitDefEqProofs only [pz,↓reduceIte,eX];by_cases hlt:R<c.length
 . have g:c[c.length-1-R]? =some (c.getD (c.length-1-R) 0):=(by simp [uq4,show c.length-1-R<c.length by omega]);have hz:(c.getD (c.length-1-R) 0==z)=false:=beq_eq_false_iff_ne.2 (p4 (by omega));have li:decide ((R:Int)<(c.length:Int))=true:=dT (by omega);have e2:((c.length:Int)-1-(R:Int)).toNat=c.length-1-R:=(by omega);generalize c.getD (c.length-1-R) 0=y at g hz;clear p4;simp -dsimp -implicitDefEqProofs only [go_sem]
   repeat' first
    |(with_reducible refine ai ?_ ?_)
    |(refine aj.draw mixed rfl ?_;try simp -dsimp -implicitDefEqProofs only [go_sem,li,e1,e2,g,gl,hz])
   all_goals first
    |omega|(refine ⟨?_,?_⟩<;>omega)
    |rfl
    |skip
 have li:decide ((R:Int)<(c.length:Int))=false:=dF (by omega);clear p4;simp -dsimp -implicitDefEqProofs only [go_sem];repeat' (refine aj.draw mixed rfl ?_;try simp -dsimp -implicitDefEqProofs only [go_sem,li])
 all_goals first
  |rfl
  |skip
theorem yE (m:aL) (c:lI) (hm:aW m=true) (h:c.length<=1048576):Fn pG 91 [ky m,aP c] true (· =eB ((c.all λx=>bx x 0 (m.ak-1))&&((c.length:Int)==m.ae))):=by
 refine Fn.av 26 [.tmp 4] func91 (hv:= ?_);have hb:=aI hm;simp -dsimp -implicitDefEqProofs only [go_sem];refine aj.up [1,2] [8,19] [] c.length (λi=>(c.take i).all (λx=>bx x 0 (m.ak-1))) (λi=>[(5,eI i)]) (λ_=>[]) (by simp) ?_ rfl (λi hi hI=> ?_) (λhI=> ?_)
 . simp -dsimp -implicitDefEqProofs only [go_sem]
 . have gi:=get_some hi;have li:=aE hi;have no:bx c[i] 0 (m.ak-1)=false->(c.all λx=>bx x 0 (m.ak-1))=false:=λh=>gP (p:=λx=>bx x 0 (m.ak-1)) hi h;have yes:bx c[i] 0 (m.ak-1)=true->(c.take (i+1)).all (λx=>bx x 0 (m.ak-1))=true:=λh=>by rw [dy _ _ _ hi,hI,h];rfl
   simp -dsimp -implicitDefEqProofs only [go_sem,li]
   repeat' first
    |(refine Br.intro (λ_=> ?_) (λ_=> ?_)<;>try simp -dsimp -implicitDefEqProofs only [go_sem, *])
    |(with_reducible refine ai ?_ ?_)
    |(refine aj.draw mixed rfl ?_;try simp -dsimp -implicitDefEqProofs only [go_sem, *])
    |(refine an (jD _ _ _) ?_;try simp -dsimp -implicitDefEqProofs only [go_sem, *])
   all_goals first
    |omega
    |(refine ⟨?_,?_⟩<;>omega)
    |rfl
    |(rw [no (by simp_all)];rfl)
    |(refine yes ?_;simp_all;done)
    |skip
 simp -dsimp -implicitDefEqProofs only [pz,cm,ft,e7,↓reduceIte,eX];rw [dw] at hI;simp -dsimp -implicitDefEqProofs only [go_sem,ay];rw [hI];rfl
theorem Iu (m:aL) (c:lI) (hm:aW m=true) (h:c.length<=1048576):Fn pG 130 [ky m,aP c] true (· =eB (((c.length:Int)==m.ae)&&(c.all λx=>bx x 0 (m.ak-1)))):=by
 refine Fn.av 17 [.tmp 4] func130 (hv:= ?_);have hb:=aI hm;simp -dsimp -implicitDefEqProofs only [go_sem]
 repeat' first
  |(refine Br.intro (λ_=> ?_) (λ_=> ?_)<;>try simp -dsimp -implicitDefEqProofs only [go_sem, *])
  |(with_reducible refine ai ?_ ?_)
  |(refine aa (o6 c 0 (m.ak-1) (by omega)) ?_;try simp -dsimp -implicitDefEqProofs only [go_sem, *])
 all_goals first
  |(refine ⟨?_,?_⟩<;>omega)
  |skip
theorem JY {m:aL} {c:lI} (hm:aW m=true) (ha:(c.all λx=>bx x 0 (m.ak-1))=true) (i:Nat) (hi:i<c.length):0<=c[i]/\c[i]<=7:=by have:=aI hm;rw [uq1] at ha;have:=ha _ (uq6 hi);simp [bx] at this;omega
theorem mR {m:aL} (h:aW m=true):1<=m.same/\m.same<=6/\1<=m.least/\1<=m.step:=by simp only [aW,uq0,bx,decide_eq_true_eq] at h;omega
theorem nF (m:aL) (c:lI) (hm:aW m=true) (h:c.length<=1048576):Fn pG 78 [ky m,aP c] true (· =eI (fault m c)):=by
 refine Fn.av 71 [.tmp 4] func78 (hv:= ?_);rcases hl:((c.length:Int)==m.ae) with _|_
 . have hF:fault m c=1:=(by rw [fault,if_pos (by simpa using hl)]);rw [hF];simp -dsimp -implicitDefEqProofs only [go_sem];repeat' (refine Br.intro (λ_=> ?_) (λ_=> ?_)<;>try simp -dsimp -implicitDefEqProofs only [go_sem, *])
   all_goals (first|(simp_all;done)|skip)
 have hle:¬(c.length:Int)≠m.ae:=by simpa using hl
 rcases ha:(c.all λx=>bx x 0 (m.ak-1)) with _|_
 . have hF:fault m c=2:=(by rw [fault,if_neg hle,if_pos ha]);have hc:=yE m c hm h;rw [ha,hl] at hc;rw [hF];clear hF ha hle;simp -dsimp -implicitDefEqProofs only [go_sem]
   repeat' first
    |(refine Br.intro (λ_=> ?_) (λ_=> ?_)<;>try simp -dsimp -implicitDefEqProofs only [go_sem, *])
    |(refine aa (hc) ?_;try simp -dsimp -implicitDefEqProofs only [go_sem, *])
   all_goals (first|(simp_all;done)|skip)
 have hF:fault m c=if ((bd c.length).all (cw m c))=false then 3 else if ((bd c.length).all λi=>decide ((aZ c i:Int)<=m.same))=false then 4 else if (bf c c.length:Int)<m.least then 5 else 0:=by rw [fault,if_neg hle,if_neg (by simp [ha])]
 have hc:=yE m c hm h;rw [ha,hl] at hc;have hel:=JY hm ha;have hsm:=mR hm;have hkl:=jo c c.length;have hch:c.length<=6:=by have:=aI hm;omega
 clear ha hle;simp -dsimp -implicitDefEqProofs only [go_sem]
 repeat' first
  |(refine Br.intro (λ_=> ?_) (λ_=> ?_)<;>try simp -dsimp -implicitDefEqProofs only [go_sem, *])
  |(refine aa (hc) ?_;try simp -dsimp -implicitDefEqProofs only [go_sem, *])
 all_goals try ((simp_all;done))
 clear hl hc;refine aj.up [1,2] [19,36,59] [] c.length (λi=>(bd i).all (cw m c)) (λi=>[(7,eI i),(5,eI (dA c i)),(6,eI (dt c i))]) (λ_=>[]) (by simp) ?_ rfl (λi hi hI=> ?_) (λhI=> ?_)
 . have h0:dt c 0=0:=(by unfold dt;rfl);rw [show dA c 0=0 from rfl,h0];simp -dsimp -implicitDefEqProofs only [go_sem]
 . have no:cw m c i=false->fault m c=3:=λh=>by rw [hF,if_pos (b7 hi h)]
   have yes:cw m c i=true->(bd (i+1)).all (cw m c)=true:=λh=>by rw [bh,hI,h];rfl
   have hM:((dt c (i+1):Nat):Int)=if ((dA c (i+1):Nat):Int)>(dt c i:Int) then ((dA c (i+1):Nat):Int) else (dt c i:Int):=by
    rw [show dA c (i+1)=aZ c i from rfl];rw [show dt c (i+1)=if dt c i<aZ c i then aZ c i else dt c i by rw [dt]];by_cases hlt:dt c i<aZ c i
    . rw [if_pos hlt,if_pos (by omega)]
    rw [if_neg hlt,if_neg (by omega)]
   have hrb:dA c i<=i/\dA c (i+1)<=i+1:=by
    refine ⟨?_,(iq c i).2.1⟩;rw [dA];split
    . omega
    have:=(iq c (i-1)).2.1;omega
   have hmb:dt c i<=c.length:=by
    have key:∀n,dt c n<=n:=λn=>by
     induction n with
     |zero=>unfold dt;omega
     |succ n ih=>rw [dt];have:=(iq c n).2.1;split<;>omega
    have:=key i;omega
   have e1:=hel i hi;have gi:=get_some hi;have li:=aE hi;clear hF hI;generalize dt c i=M at hM hmb;generalize dt c (i+1)=M' at hM;by_cases hi0:0<i
   rotate_left
   . have g3:decide ((i:Int)>0)=false:=(by simp;omega);have hR:dA c i=0/\dA c (i+1)=1:=by
      have e0:i=0:=(by omega);subst e0;exact ⟨rfl,by show aZ c 0=1;unfold aZ;rfl⟩
     have hs:cw m c i=true:=by have e0:i=0:=(by omega);subst e0;rfl
     rw [hR.1,hR.2];rw [hR.2] at hM;clear hR hrb no;have yes:=yes hs;simp -dsimp -implicitDefEqProofs only [pz,cm,ft,e7,↓reduceIte,eX];rw [hM];simp -dsimp -implicitDefEqProofs only [go_sem,li]
     repeat' first
      |(with_reducible refine ai ?_ ?_)
      |(refine aj.draw mixed rfl ?_;try simp -dsimp -implicitDefEqProofs only [go_sem,g3])
     all_goals (first|(refine ⟨?_,?_⟩<;>omega)|(simp;done)|rfl|(simp_all;done)|skip)
   have hi':i-1<c.length:=(by omega);have e2:=hel (i-1) hi';have g2:c[((i:Int)-1).toNat]? =some c[i-1]:=(by rw [pred_toNat hi0];exact get_some hi');have g3:decide ((i:Int)>0)=true:=(by simp;omega);have hs:cw m c i=decide (fj (c[i]-c[i-1])<=m.step):=by rw [cw,show (i==0)=false by simp;omega];simp [uq4,hi,hi']
   have hR:((dA c (i+1):Nat):Int)=if (c[i]==c[i-1])=true then (dA c i:Int)+1 else 0+1:=by
    obtain ⟨j,rfl⟩:∃j,i=j+1:=⟨i-1,by omega⟩;rw [show dA c (j+1+1)=aZ c (j+1) from rfl,show dA c (j+1)=aZ c j from rfl,aZ];simp only [Nat.add_sub_cancel];have q1:c.getD (j+1) 0=c[j+1]:=(by simp [uq4,hi]);have q2:c.getD j 0=c[j]:=(by simp [uq4,show j<c.length by omega]);rw [q1,q2];by_cases hq:c[j+1]=c[j]
    . rw [if_pos hq,if_pos (by simpa using hq)];simp
    rw [if_neg hq,if_neg (by simpa using hq)];simp
   rw [hs] at no yes;have yes':decide (fj (c[i]-c[i-1])>m.step)=false->(bd (i+1)).all (cw m c)=true:=λh=>yes (dT (by have:=of_decide_eq_false h;omega));have no':decide (fj (c[i]-c[i-1])>m.step)=true->fault m c=3:=λh=>no (dF (by have:=oT h;omega));have hab:fj (c[i]-c[i-1])<=7:=(by unfold fj;split<;>omega);have YM:0<=fj (c[i]-c[i-1]):=(by unfold fj;split<;>omega);generalize dA c i=R at hR hrb;generalize dA c (i+1)=R' at hR hrb hM;clear hs;simp -dsimp -implicitDefEqProofs only [pz,cm,ft,e7,↓reduceIte,eX];rw [hM];clear hM;rw [hR];simp -dsimp -implicitDefEqProofs only [go_sem,li]
   repeat' first
    |(refine Br.intro (λ_=> ?_) (λ_=> ?_)<;>try simp -dsimp -implicitDefEqProofs only [go_sem, *])
    |(with_reducible refine ai ?_ ?_)
    |(refine aj.draw mixed rfl ?_;try simp -dsimp -implicitDefEqProofs only [go_sem,gi,g2,g3])
    |(refine an (FP _ (by omega)) ?_;try simp -dsimp -implicitDefEqProofs only [go_sem, *])
   all_goals first
    |(rw [←bm];exact yes' (by assumption))
    |(first|omega|(refine ⟨?_,?_⟩<;>omega)|(simp;done)|rfl|(simp_all;done)|skip)
 have hMl:=Me c m.same (by omega) c.length;rw [hI,if_neg (by decide)] at hF;rw [hF];clear hF hel hI;rcases hq:((bd c.length).all λi=>decide ((aZ c i:Int)<=m.same)) with _|_
 all_goals
  rw [hq] at hMl;clear hq;by_cases hk:(bf c c.length:Int)<m.least
 all_goals
  have hk':=hk;first|rw [if_pos hk]|rw [if_neg hk]
  (replace hk':=dT hk');clear hk;simp -dsimp -implicitDefEqProofs only [go_sem,ay,hMl]
  repeat' first
   |(refine Br.intro (λ_=> ?_) (λ_=> ?_)<;>try simp -dsimp -implicitDefEqProofs only [go_sem, *])
   |(with_reducible refine ai ?_ ?_)
   |(refine aj.draw mixed rfl ?_;try simp -dsimp -implicitDefEqProofs only [go_sem])
   |(refine an (qX c h) ?_;try simp -dsimp -implicitDefEqProofs only [go_sem, *])
  all_goals (first|rfl|(simp_all;omega)|skip)
theorem yF (m:aL) (c:lI) (hm:aW m=true) (h:c.length<=1048576):Fn pG 90 [ky m,aP c] true (· =eI (fault m c)):=by
 refine Fn.av 55 [.tmp 4] func90 (hv:= ?_);rcases hl:((c.length:Int)==m.ae) with _|_
 . have hF:fault m c=1:=(by rw [fault,if_pos (by simpa using hl)]);rw [hF];simp -dsimp -implicitDefEqProofs only [go_sem];repeat' (refine Br.intro (λ_=> ?_) (λ_=> ?_)<;>try simp -dsimp -implicitDefEqProofs only [go_sem, *])
   all_goals (first|(simp_all;done)|skip)
 have hle:¬(c.length:Int)≠m.ae:=by simpa using hl
 have hc:=Iu m c hm h;rcases ha:(c.all λx=>bx x 0 (m.ak-1)) with _|_
 . have hF:fault m c=2:=(by rw [fault,if_neg hle,if_pos ha]);rw [ha,hl] at hc;rw [hF];clear hF ha hle;simp -dsimp -implicitDefEqProofs only [go_sem]
   repeat' first
    |(refine Br.intro (λ_=> ?_) (λ_=> ?_)<;>try simp -dsimp -implicitDefEqProofs only [go_sem, *])
    |(refine aa (hc) ?_;try simp -dsimp -implicitDefEqProofs only [go_sem, *])
   all_goals (first|(simp_all;done)|skip)
 have hF:fault m c=if ((bd c.length).all (cw m c))=false then 3 else if ((bd c.length).all λi=>decide ((aZ c i:Int)<=m.same))=false then 4 else if (bf c c.length:Int)<m.least then 5 else 0:=by rw [fault,if_neg hle,if_neg (by simp [ha])]
 rw [ha,hl] at hc;have hel:=JY hm ha;have hsm:=mR hm;have hkl:=jo c c.length;have hch:2<=c.length/\c.length<=6:=by have:=aI hm;omega
 clear ha hle;simp -dsimp -implicitDefEqProofs only [go_sem]
 repeat' first
  |(refine Br.intro (λ_=> ?_) (λ_=> ?_)<;>try simp -dsimp -implicitDefEqProofs only [go_sem, *])
  |(refine aa (hc) ?_;try simp -dsimp -implicitDefEqProofs only [go_sem, *])
 all_goals try ((simp_all;done))
 clear hl hc;refine aj.up [1,2] [18,32] [] (c.length-1) (λi=>(bd (i+1)).all (cw m c)) (λi=>[(5,eI ((i+1:Nat):Int))]) (λ_=>[]) (by simp [cw]) ?_ rfl (λi hi hI=> ?_) (λhI=> ?_)
 . simp -dsimp -implicitDefEqProofs only [go_sem];all_goals (first|(simp;done)|skip)
 . have hi1:i+1<c.length:=(by omega);have hi0:i<c.length:=(by omega);have no:cw m c (i+1)=false->fault m c=3:=λh=>by rw [hF,if_pos (b7 hi1 h)]
   have yes:cw m c (i+1)=true->(bd (i+1+1)).all (cw m c)=true:=λh=>by rw [bh,hI,h];rfl
   have e1:=hel i hi0;have e2:=hel (i+1) hi1;have g1:=get_some hi1;have g2:c[(((i+1:Nat):Int)-1).toNat]? =some c[i]:=(by rw [show (((i+1:Nat):Int)-1).toNat=i by omega];exact get_some hi0);have li:=aE hi1;have hs:cw m c (i+1)=decide (fj (c[i+1]-c[i])<=m.step):=by rw [cw,show (i+1==0)=false by simp];simp [uq4,hi0,hi1]
   rw [hs] at no yes;have yes':decide (fj (c[i+1]-c[i])>m.step)=false->(bd (i+1+1)).all (cw m c)=true:=λh=>yes (dT (by have:=of_decide_eq_false h;omega));have no':decide (fj (c[i+1]-c[i])>m.step)=true->fault m c=3:=λh=>no (dF (by have:=oT h;omega));have hab:fj (c[i+1]-c[i])<=7:=(by unfold fj;split<;>omega);have YM:0<=fj (c[i+1]-c[i]):=(by unfold fj;split<;>omega);clear hF hI hs;simp -dsimp -implicitDefEqProofs only [go_sem,li]
   repeat' first
    |(refine Br.intro (λ_=> ?_) (λ_=> ?_)<;>try simp -dsimp -implicitDefEqProofs only [go_sem, *])
    |(with_reducible refine ai ?_ ?_)
    |(refine aj.draw mixed rfl ?_;try simp -dsimp -implicitDefEqProofs only [go_sem,g1,g2])
    |(refine an (jq _ (by omega)) ?_;try simp -dsimp -implicitDefEqProofs only [go_sem, *])
   all_goals first
    |(simp only [bm] at yes' ⊢;exact yes' (by assumption))
    |(first|omega|(refine ⟨?_,?_⟩<;>omega)|(simp;done)|rfl|skip)
 have hcl:c.length-1+1=c.length:=by omega
 rw [hcl] at hI ⊢;rw [hI,if_neg (by decide)] at hF;clear hel hI hcl;simp -dsimp -implicitDefEqProofs only [go_sem,ay];refine aj.up [1,2,37] [45] [] c.length (λi=>(bd i).all λi=>decide ((aZ c i:Int)<=m.same)) (λi=>[(38,eI i)]) (λ_=>[]) (by simp) ?_ rfl (λi hi hI=> ?_) (λhI=> ?_)
 . simp -dsimp -implicitDefEqProofs only [go_sem]
 . have no:decide ((aZ c i:Int)<=m.same)=false->fault m c=4:=λh=>by rw [hF,if_pos (b7 (p:=λi=>decide ((aZ c i:Int)<=m.same)) hi h)]
   have yes:decide ((aZ c i:Int)<=m.same)=true->((bd (i+1)).all λi=>decide ((aZ c i:Int)<=m.same))=true:=λh=>by rw [bh,hI,h];rfl
   have yes':decide ((aZ c i:Int)>m.same)=false->((bd (i+1)).all λi=>decide ((aZ c i:Int)<=m.same))=true:=λh=>yes (dT (by have:=of_decide_eq_false h;omega));have no':decide ((aZ c i:Int)>m.same)=true->fault m c=4:=λh=>no (dF (by have:=oT h;omega));have hrl:=(iq c i).2.1;have hcr:=kz (c.take (i+1)) (by simp;omega) (by simp;omega);have hll:(c.take (i+1)).length-1=i:=(by simp;omega);rw [hll,yD c (i+1) i (by omega)] at hcr;have li:=aE hi;have e3:((i:Int)+1).toNat=i+1:=(by omega);clear hF hI no yes hll;simp -dsimp -implicitDefEqProofs only [go_sem,li]
   repeat' first
    |(refine Br.intro (λ_=> ?_) (λ_=> ?_)<;>try simp -dsimp -implicitDefEqProofs only [go_sem, *])
    |(with_reducible refine ai ?_ ?_)
    |(refine aj.draw mixed rfl ?_;try simp -dsimp -implicitDefEqProofs only [go_sem,e3])
    |(rw [←uq9];refine an hcr ?_;try simp -dsimp -implicitDefEqProofs only [go_sem, *])
   all_goals first
    |(rw [←bm];exact yes' (by assumption))
    |(first|omega|(refine ⟨?_,?_⟩<;>omega)|(simp;done)|rfl|skip)
 rw [hI,if_neg (by decide)] at hF;rw [hF];clear hF hI;by_cases hk:(bf c c.length:Int)<m.least
 all_goals
  have hk':=hk;first|rw [if_pos hk]|rw [if_neg hk]
  (replace hk':=dT hk');clear hk;simp -dsimp -implicitDefEqProofs only [go_sem,ay]
  repeat' first
   |(refine Br.intro (λ_=> ?_) (λ_=> ?_)<;>try simp -dsimp -implicitDefEqProofs only [go_sem, *])
   |(with_reducible refine ai ?_ ?_)
   |(refine aj.draw mixed rfl ?_;try simp -dsimp -implicitDefEqProofs only [go_sem])
   |(refine an (iF c h) ?_;try simp -dsimp -implicitDefEqProofs only [go_sem, *])
  all_goals (first|rfl|(simp_all;omega)|skip)
def fC (m:aL) (c:lI):Bool:=fault m c==0
theorem C' (m:aL) (c:lI) (hm:aW m=true) (h:c.length<=1048576):Fn pG 76 [ky m,aP c] true (· =eB (fC m c)):=by
 refine Fn.av 9 [.tmp 4] func76 (hv:= ?_);simp -dsimp -implicitDefEqProofs only [go_sem];repeat' (refine aa (yF m c hm h) ?_;try simp -dsimp -implicitDefEqProofs only [go_sem, *])
 all_goals first|rfl|skip
theorem BP (m:aL) (ks:lL) (hm:aW m=true) (h:ks.length<=1048576) (h2:∀x∈ks,x.length<=1048576):Fn pG 52 [ky m,aQ ks] true (· =eB (ks.all (fC m)&&decide ((ks.length:Int)<=300))):=by
 refine Fn.av 22 [.tmp 4] func52 (hv:= ?_);simp -dsimp -implicitDefEqProofs only [go_sem];refine aj.up [1,2] [8,17] [] ks.length (λi=>(ks.take i).all (fC m)) (λi=>[(5,eI i)]) (λ_=>[]) (by simp) ?_ rfl (λi hi hI=> ?_) (λhI=> ?_)
 . simp -dsimp -implicitDefEqProofs only [go_sem]
 . have gi:=get_some hi;have li:=aE hi;have no:fC m ks[i]=false->ks.all (fC m)=false:=λh=>gP hi h;have yes:fC m ks[i]=true->(ks.take (i+1)).all (fC m)=true:=λh=>by rw [dy _ _ _ hi,hI,h];rfl
   have yes':(fault m ks[i] != 0)=false->(ks.take (i+1)).all (fC m)=true:=λh=>yes (by simpa [fC] using h);have no':(fault m ks[i] != 0)=true->ks.all (fC m)=false:=λh=>no (by simpa [fC] using h);have hc:=nF m ks[i] hm (h2 _ (uq6 hi));clear no yes hI;simp -dsimp -implicitDefEqProofs only [go_sem,li]
   repeat' first
    |(refine Br.intro (λ_=> ?_) (λ_=> ?_)<;>try simp -dsimp -implicitDefEqProofs only [go_sem, *])
    |(with_reducible refine ai ?_ ?_)
    |(refine aj.draw mixed rfl ?_;try simp -dsimp -implicitDefEqProofs only [go_sem,gi])
    |(refine an (hc) ?_;try simp -dsimp -implicitDefEqProofs only [go_sem, *])
   all_goals (first|omega|(refine ⟨?_,?_⟩<;>omega)|(simp;done)|rfl|skip)
 rw [dw] at hI;rw [hI];simp -dsimp -implicitDefEqProofs only [go_sem,ay]
set_option maxHeartbeats 4000000 in
theorem tQ (m:aL) (ks:lL) (hm:aW m=true) (h:ks.length<=1048576) (h2:∀x∈ks,x.length<=1048576):Fn pG 50 [ky m,aQ ks] true (· =eB (ks.all (fC m))):=by
 refine Fn.av 9 [.tmp 4] func50 (hv:= ?_);have zt:(∀i (hi:i<ks.length),fC m ks[i]=true)->ks.all (fC m)=true:=λh=>uq1.2 λx hx=>by obtain ⟨i,hi,rfl⟩:=List.getElem_of_mem hx;exact h i hi
 have hno:∀i (hi:i<ks.length),fC m ks[i]=false->ks.all (fC m)=false:=λi hi h=>gP hi h;generalize ks.all (fC m)=ok at zt hno;simp -dsimp -implicitDefEqProofs only [go_sem];refine bN 400000 9 [.tmp 4] func74 rfl rfl rfl rfl rfl (by exact oT rfl) ?_;simp -dsimp -implicitDefEqProofs only [go_sem];refine bN 410000 19 [.tmp 4] func89 rfl rfl rfl rfl rfl (by exact oT rfl) ?_;simp -dsimp -implicitDefEqProofs only [go_sem];refine aj.up [0,1,7] [16] [] ks.length (λi=>∀j (hj:j<ks.length),j<i->fC m ks[j]=true) (λi=>[(8,eI i)]) (λ_=>[]) (λj _ h=>absurd h (Nat.not_lt_zero _)) ?_ rfl (λi hi hI=> ?_) (λhI=> ?_)
 . simp -dsimp -implicitDefEqProofs only [go_sem]
 . have gi:=get_some hi;have li:=aE hi;have hc:=C' m ks[i] hm (h2 _ (uq6 hi));rcases hv:fC m ks[i] with _|_
   . rw [hv] at hc;have hn:=hno i hi hv;clear hno zt hI hv;subst hn;simp -dsimp -implicitDefEqProofs only [go_sem,gi,li];refine ⟨⟨by omega,by omega⟩,?_⟩;refine bN 420000 8 [.tmp 3] func75 rfl rfl rfl rfl rfl (by exact oT rfl) ?_;simp -dsimp -implicitDefEqProofs only [go_sem];repeat' (refine aa (hc) ?_;try simp -dsimp -implicitDefEqProofs only [go_sem, *])
     (all_goals try first|exact rfl|(simp;done))
   rw [hv] at hc;have hI':∀j (hj:j<ks.length),j<i+1->fC m ks[j]=true:=λj hj h=>by
    by_cases hji:j=i
    . subst hji;exact hv
    exact hI j hj (by omega)
   clear hno zt hI hv;simp -dsimp -implicitDefEqProofs only [go_sem,gi,li];refine ⟨⟨by omega,by omega⟩,?_⟩;refine bN 420000 8 [.tmp 3] func75 rfl rfl rfl rfl rfl (by exact oT rfl) ?_;simp -dsimp -implicitDefEqProofs only [go_sem]
   repeat' first
    |(with_reducible refine ai ?_ ?_)
    |(refine aa (hc) ?_;try simp -dsimp -implicitDefEqProofs only [go_sem, *])
   (all_goals try first|omega|(refine ⟨?_,?_⟩<;>omega)|exact rfl|(simp;done))
 have hn:=zt λj hj=>hI j hj hj;clear hno zt hI;subst hn;simp -dsimp -implicitDefEqProofs only [go_sem,ay];(all_goals try first|exact rfl|(simp;done))
def gR (m:aL) (a k:lL):Bool:=aW m&&(((a.length:Int)==0)||iL a)&&((k.length:Int)==(a.length:Int))&&k.all (fC m)
abbrev WX (m:aL) (a k:lL):AV:=.agg [eI m.ae,eI m.ak,eI m.step,eI m.same,eI m.least,aQ a,aQ k]
theorem Mf (m:aL) (a k:lL) (h:a.length<=1048576) (h2:∀x∈a,x.length<=1048576) (h3:k.length<=1048576) (h4:∀x∈k,x.length<=1048576):Fn pG 23 [WX m a k] true (· =eB (gR m a k)):=by
 refine Fn.av 33 [.tmp 2] func23 (hv:= ?_);rcases hm:aW m with _|_
 . have hF:gR m a k=false:=(by rw [gR,hm];rfl);rw [hF];simp -dsimp -implicitDefEqProofs only [go_sem];repeat' (refine aa (eU m) ?_;try simp -dsimp -implicitDefEqProofs only [go_sem, *])
 have hF:gR m a k=((((a.length:Int)==0)||iL a)&&((k.length:Int)==(a.length:Int))&&k.all (fC m)):=by rw [gR,hm];rfl
 rw [hF];clear hF;simp -dsimp -implicitDefEqProofs only [go_sem]
 repeat' first
  |(refine Br.intro (λ_=> ?_) (λ_=> ?_)<;>try simp -dsimp -implicitDefEqProofs only [go_sem, *])
  |(refine aa (eU m) ?_;try simp -dsimp -implicitDefEqProofs only [go_sem, *])
  |(refine aa (qU a h h2) ?_;try simp -dsimp -implicitDefEqProofs only [go_sem, *])
  |(refine aa (tQ m k hm h3 h4) ?_;try simp -dsimp -implicitDefEqProofs only [go_sem, *])
theorem Mg (m:aL) (a k:lL) (h:a.length<=1048576) (h2:∀x∈a,x.length<=1048576) (h3:k.length<=1048576) (h4:∀x∈k,x.length<=1048576):Fn pG 24 [WX m a k] true (· =eB (gR m a k)):=by
 refine Fn.av 33 [.tmp 2] func24 (hv:= ?_);rcases hm:aW m with _|_
 . have hF:gR m a k=false:=(by rw [gR,hm];rfl);rw [hF];simp -dsimp -implicitDefEqProofs only [go_sem];repeat' (refine aa (fB m) ?_;try simp -dsimp -implicitDefEqProofs only [go_sem, *])
 have hF:gR m a k=((((a.length:Int)==0)||iL a)&&((k.length:Int)==(a.length:Int))&&k.all (fC m)):=by rw [gR,hm];rfl
 rw [hF];have hq:iL a=true->a.length<=10:=λh=>(mQ h).2.1;clear hF;simp -dsimp -implicitDefEqProofs only [go_sem]
 repeat' first
  |(refine Br.intro (λ_=> ?_) (λ_=> ?_)<;>try simp -dsimp -implicitDefEqProofs only [go_sem, *])
  |(refine aa (fB m) ?_;try simp -dsimp -implicitDefEqProofs only [go_sem, *])
  |(refine aa (qV a h h2) ?_;try simp -dsimp -implicitDefEqProofs only [go_sem, *])
  |(refine aa (BP m k hm h3 h4) ?_;try simp -dsimp -implicitDefEqProofs only [go_sem, *])
 all_goals first
  |(rename_i hA hB
    have hA':(k.length:Int)=a.length:=(by simpa [bne] using hA);rcases cO:k.all (fC m) with _|_
    . simp
    rw [cO,Bool.true_and] at hB;have hB':¬(k.length:Int)<=300:=(by simpa using hB);have h1:iL a=false:=(by rw [Bool.eq_false_iff];intro hh;have:=hq hh;omega);have h0:((a.length:Int)==0)=false:=(by rw [beq_eq_false_iff_ne];omega)
    rw [h1,h0];rfl)
  |(first|(simp_all;done)|skip)
def j1 (keys:lL) (i:Nat) (d:Nat):Bool:=keys.any λk=>k.getD i 0==(d:Int)
def jF (m:aL) (keys:lL) (i:Nat):lI:=vZ (j1 keys i) m.ak.toNat
def kg (m:aL) (keys:lL) (n:Nat):lL:=(bd n).map (jF m keys)
theorem BQ (m:aL) (keys:lL) (n:Nat):kg m keys (n+1)=kg m keys n++[jF m keys n]:=by simp [kg,bm]
theorem BT (m:aL) (keys:lL):kg m keys 0=[]:=rfl
theorem o8 (m:aL) (keys:lL) (n:Nat):(kg m keys n).length=n:=by simp [kg]
theorem FQ (m:aL) (keys:lL) (i:Nat):(jF m keys i).length<=m.ak.toNat:=pR _ _
theorem Mh (m:aL) (keys:lL) (n:Nat):∀x∈kg m keys n,x.length<=m.ak.toNat:=λx hx=>by simp only [kg,List.mem_map] at hx;obtain ⟨i,_,rfl⟩:=hx;exact FQ _ _ _
theorem yG:∀{xs ys:lI},xs.Pairwise (· < ·)->ys.Pairwise (· < ·)->(∀x,x∈xs↔x∈ys)->xs=ys
 | [],[],_,_,_=>rfl
 | [],y::ys,_,_,h=>absurd ((h y).2 (dR ..)) (by simp)
 |x::xs,[],_,_,h=>absurd ((h x).1 (dR ..)) (by simp)
 |x::xs,y::ys,h1,h2,h=>by
  obtain ⟨g1,g2⟩:=List.pairwise_cons.1 h1;obtain ⟨k1,k2⟩:=List.pairwise_cons.1 h2;have e:x=y:=by
   rcases List.mem_cons.1 ((h x).1 (dR ..)) with e|e
   . exact e
   rcases List.mem_cons.1 ((h y).2 (dR ..)) with e'|e'
   . exact e'.symm
   have:=k1 x e;have:=g1 y e';omega
  subst e
  have hr:∀z,z∈xs↔z∈ys:=λz=>⟨λhz=>by
   rcases List.mem_cons.1 ((h z).1 (List.mem_cons_of_mem _ hz)) with e|e
   . have:=g1 z hz;omega
   . exact e,λhz=>by
   rcases List.mem_cons.1 ((h z).2 (List.mem_cons_of_mem _ hz)) with e|e
   . have:=k1 z hz;omega
   exact e⟩
  rw [yG g2 k2 hr]
theorem sP (p:Nat->Bool):∀n,(vZ p n).Pairwise (· < ·)
 |0=>by rw [o5];exact List.Pairwise.nil
 |n+1=>by
  rw [mP];split
  . refine List.pairwise_append.2 ⟨sP p n,List.pairwise_singleton ..,λa ha b hb=> ?_⟩;obtain ⟨j,hj,rfl,_⟩:=sJ ha;simp only [bI] at hb;omega
  exact sP p n
theorem qY {p:Nat->Bool} {n j:Nat} (hj:j<n) (hp:p j=true):(j:Int)∈vZ p n:=by
 induction n with
 |zero=>omega
 |succ n ih=>
  rw [mP];by_cases e:j=n
  . subst e;rw [if_pos hp];simp
  have:=ih (by omega);split
  . exact List.mem_append_left _ this
  exact this
theorem Mi {xs:lI} {p:Nat->Bool} {D:Nat} (h:∀x∈xs,∃j:Nat,j<D/\x=(j:Int)) (hp:∀j,j<D->(p j=true↔(j:Int)∈xs)):vv xs=vZ p D:=by
 refine yG (Ip xs) (sP p D) λx=> ?_;rw [L_];constructor
 . intro hx;obtain ⟨j,hj,rfl⟩:=h x hx;exact qY hj ((hp j hj).2 hx)
 intro hx;obtain ⟨j,hj,rfl,h2⟩:=sJ hx;exact (hp j hj).1 h2
theorem Iv {m:aL} {keys:lL} {i:Nat} (h:∀k∈keys,0<=k.getD i 0/\k.getD i 0<m.ak):vv (keys.map λk=>k.getD i 0)=jF m keys i:=by
 refine Mi (λx hx=> ?_) λj _=> ?_
 . obtain ⟨k,hk,rfl⟩:=List.mem_map.1 hx;have:=h k hk;exact ⟨(k.getD i 0).toNat,by omega,by omega⟩
 simp only [j1,List.any_eq_true,List.mem_map,beq_iff_eq]
def jr (t ab:lL) (k:Nat):Nat->lL
 |0=>[]
 |i+1=>if ((t.getD i []).getD k 0==1)=true then jr t ab k i++[ab.getD i []] else jr t ab k i
theorem Mj (t ab:lL) (k:Nat):jr t ab k 0=[]:=rfl
theorem gJ (t ab:lL) (k i:Nat):jr t ab k (i+1)=if ((t.getD i []).getD k 0==1)=true then jr t ab k i++[ab.getD i []] else jr t ab k i:=rfl
theorem sQ (t ab:lL) (k:Nat):∀i,(jr t ab k i).length<=i
 |0=>bt _
 |i+1=>by
  have:=sQ t ab k i;rw [gJ];split
  . simp;omega
  omega
theorem yH {t ab:lL} {k:Nat}:∀{i:Nat},i<=ab.length->∀x∈jr t ab k i,x∈ab
 |0,_,x,hx=>by cases hx
 |i+1,hi,x,hx=>by
  have ih:=yH (t:=t) (ab:=ab) (k:=k) (i:=i) (by omega);rw [gJ] at hx;split at hx
  . rcases bj.1 hx with h|h
    . exact ih x h
    simp only [bI] at h;subst h;rw [uq4,uq5 (by omega)];exact uq6 _
  exact ih x hx
def bO (m:aL) (t ab:lL) (k:Nat):lL:=kg m (jr t ab k ab.length) m.ae.toNat
theorem kU (m:aL) (t ab:lL) (k:Nat):(bO m t ab k).length=m.ae.toNat:=o8 _ _ _
theorem iG (m:aL) (t ab:lL) (k:Nat):∀x∈bO m t ab k,x.length<=m.ak.toNat:=Mh _ _ _
def az (m:aL) (t ab:lL) (n:Nat):List lL:=(bd n).map (bO m t ab)
theorem sR (m:aL) (t ab:lL):az m t ab 0=[]:=rfl
theorem sS (m:aL) (t ab:lL) (n:Nat):az m t ab (n+1)=az m t ab n++[bO m t ab n]:=by simp [az,bm]
theorem dM (m:aL) (t ab:lL) (n:Nat):(az m t ab n).length=n:=by simp [az]
theorem jS (m:aL) (t ab:lL) {n k:Nat} (h:k<n):(az m t ab n)[k]? =some (bO m t ab k):=by simp [az,h]
def dV (l:lL) (c:lI):Bool:=(bd c.length).all λi=>has (l.getD i []) (c.getD i 0)
def oo (m:aL) (t ab:lL) (i:Nat):Nat->lL
 |0=>[]
 |k+1=>if (((t.getD i []).getD k 0==0)&&dV (bO m t ab k) (ab.getD i []))=true then oo m t ab i k++[[(i:Int),(k:Int)]] else oo m t ab i k
theorem BU (m:aL) (t ab:lL) (i:Nat):oo m t ab i 0=[]:=rfl
theorem pT (m:aL) (t ab:lL) (i k:Nat):oo m t ab i (k+1)=if (((t.getD i []).getD k 0==0)&&dV (bO m t ab k) (ab.getD i []))=true then oo m t ab i k++[[(i:Int),(k:Int)]] else oo m t ab i k:=rfl
theorem sT (m:aL) (t ab:lL) (i:Nat):∀k,(oo m t ab i k).length<=k
 |0=>bt _
 |k+1=>by
  have:=sT m t ab i k;rw [pT];split
  . simp;omega
  omega
def jT (m:aL) (t ab:lL):Nat->lL
 |0=>[]
 |i+1=>jT m t ab i++oo m t ab i (t.getD 0 []).length
theorem yI (m:aL) (t ab:lL):jT m t ab 0=[]:=rfl
theorem nG (m:aL) (t ab:lL) (i:Nat):jT m t ab (i+1)=jT m t ab i++oo m t ab i (t.getD 0 []).length:=rfl
theorem kA (m:aL) (t ab:lL):∀i,(jT m t ab i).length<=i*(t.getD 0 []).length
 |0=>Nat.zero_le _
 |i+1=>by have:=kA m t ab i;have:=sT m t ab i (t.getD 0 []).length;rw [nG,uq7,Nat.succ_mul];omega
def gS (m:aL) (t ab:lL):lL:=jT m t ab ab.length
def dW (m:aL) (t ab:lL):Bool:=(ab.length==t.length)&&ab.all (fC m)
def bT (m:aL) (t ab:lL):Int:=if eW m t then (if dW m t ab then 0 else 2) else 1
def bg (m:aL) (t ab:lL):Bool:=eW m t&&dW m t ab&&(gS m t ab).isEmpty
abbrev p9 (ls:List lL):AV:=.arr ⟨1,true⟩ (ls.map sM)
theorem aY {α β:Type} (f:α->β) (l:List α) (n:Nat) (h:l.length<=n):(l.map f).take n=l.map f:=cQ (by simpa using h)
theorem Mk (m:aL) (keys:lL) (hm:aW m=true) (h0:keys.length<=1048576) (hk3:∀k∈keys,(k.length:Int)=m.ae):
 Fn pG 244 [ky m,aQ keys] false (· =sM (kg m keys m.ae.toNat)):=by
 have ⟨⟨n1,n2⟩,n3,n4⟩:=aI hm;refine Fn.bY 54 [.cell 4 121] func244 (hv:= ?_);simp -dsimp -implicitDefEqProofs only [go_sem];refine aj.up [1,2,4] [18,27,46,47,50,51] [11] m.ae.toNat (λ_=>True) (λi=>[(6,eI i),(5,.ref 11 0 0 i)]) (λi=>[(11,.row 0 ⟨1,false⟩ (i==0) ((kg m keys i).map aP))]) trivial ?_ rfl (λi hi _=> ?_) (λ_=> ?_)
 . simp -dsimp -implicitDefEqProofs only [go_sem,BT]
 . have hlt:decide ((i:Int)<m.ae)=true:=dT (by omega);have hhl:=o8 m keys i;rw [BQ];unfold jF;generalize kg m keys i=H at*;simp -dsimp -implicitDefEqProofs only [go_sem,hlt];refine aj.up [1,2,4,5,6] [27,46,47] [18] m.ak.toNat (λ_=>True) (λd=>[(8,eI d),(7,.ref 18 0 0 (vZ (j1 keys i) d).length)]) (λd=>[(18,.row 0 ⟨1,false⟩ true ((vZ (j1 keys i) d).map eI))]) trivial ?_ rfl (λd hd _=> ?_) (λ_=> ?_)
   . simp -dsimp -implicitDefEqProofs only [go_sem,o5]
   . have V3:decide ((d:Int)<m.ak)=true:=dT (by omega);have hfl:=pR (j1 keys i) d;rw [mP];have XA:j1 keys i d=(keys.take keys.length).any λx=>x.getD i 0==(d:Int):=(by rw [dw];rfl);rw [XA];clear XA;generalize vZ (j1 keys i) d=F at*;simp -dsimp -implicitDefEqProofs only [go_sem,V3];refine aj.up [1,2,4,5,6,7,8] [27] [] keys.length (λ_=>True) (λk=>[(10,eI k),(9,eB ((keys.take k).any λx=>x.getD i 0==(d:Int)))]) (λ_=>[]) trivial ?_ rfl (λk hk' _=> ?_) (λ_=> ?_)
     . simp -dsimp -implicitDefEqProofs only [go_sem];exact rfl
     . have hkl:i<keys[k].length:=(by have:=hk3 _ (uq6 hk');omega);have gk:=get_some hk';have gi:=get_some hkl;have hgd:keys[k].getD i 0=keys[k][i]:=(by simp [uq4,hkl]);rw [yB _ _ _ hk',hgd];have lk:=aE hk';generalize keys[k]=x at*;generalize x[i]=z at*;generalize ((keys.take k).any λx=>x.getD i 0==(d:Int))=b at*;simp -dsimp -implicitDefEqProofs only [pz,cm,ft,e7,↓reduceIte,eX];cases b<;>simp -dsimp -implicitDefEqProofs only [go_sem,lk,gk,gi]
       . exact ⟨⟨by omega,by omega⟩,⟨by omega,by omega⟩,⟨by omega,by omega⟩,rfl⟩
       exact ⟨⟨by omega,by omega⟩,rfl⟩
     generalize ((keys.take keys.length).any λx=>x.getD i 0==(d:Int))=b at*;simp -dsimp -implicitDefEqProofs only [pz,cm,ft,e7,↓reduceIte,eX];cases b<;>simp -dsimp -implicitDefEqProofs only [go_sem,ay]
     . exact ⟨⟨by omega,by omega⟩,rfl⟩
     exact ⟨by omega,⟨by omega,by omega⟩,rfl,by simp⟩
   have V3:decide (((m.ak.toNat:Nat):Int)<m.ak)=false:=dF (by omega);have hfl:=pR (j1 keys i) m.ak.toNat;generalize vZ (j1 keys i) m.ak.toNat=F at*;have htk:cP F.length (uq8 eI F)=uq8 eI F:=cQ (by simp);have QR:cP i (uq8 aP H)=uq8 aP H:=cQ (by simp;omega);have e2:uq8 aP (H++[F])=uq8 aP H++[aP F]:=(by simp);have e0:(i+1==0)=false:=rfl;simp -dsimp -implicitDefEqProofs only [go_sem,V3];refine .inr ⟨by omega,by omega,(by cases i with|zero=>exact .inr rfl|succ i=>exact .inl rfl),⟨by omega,by omega⟩,rfl,?_⟩;rw [e0,e2];simp -dsimp -implicitDefEqProofs only [go_sem,QR]
 have hlt:decide (((m.ae.toNat:Nat):Int)<m.ae)=false:=dF (by omega);have hhl:=o8 m keys m.ae.toNat;generalize kg m keys m.ae.toNat=H at*;have htk:=aY aP H m.ae.toNat (by omega);simp -dsimp -implicitDefEqProofs only [go_sem,hlt];((with_reducible and_intros);all_goals try omega);all_goals rw [htk]
theorem Ml (m:aL) (t ab:lL) (k:Nat) (hm:aW m=true) (h0:ab.length<=1048576) (h1:ab.length<=t.length) (hk:∀i (hi:i<t.length),k<t[i].length) (hc:∀x∈ab,(x.length:Int)=m.ae):
 Fn pG 195 [jQ m t,aQ ab,eI k] false (· =sM (bO m t ab k)):=by
 refine Fn.bY 36 [.cell 6 121] func195 (hv:= ?_);simp -dsimp -implicitDefEqProofs only [go_sem];refine aj.up [1,2,3,6] [12,30,31] [9] ab.length (λ_=>True) (λi=>[(8,eI i),(7,.ref 9 0 0 (jr t ab k i).length)]) (λi=>[(9,.row 0 ⟨1,false⟩ (jr t ab k i).isEmpty ((jr t ab k i).map aP))]) trivial ?_ rfl (λi hi _=> ?_) (λ_=> ?_)
 . simp -dsimp -implicitDefEqProofs only [go_sem,Mj,List.isEmpty_nil]
 . have hit:i<t.length:=(by omega);have hki:=hk i hit;have gi:=get_some hit;have gk:=get_some hki;have gc:=get_some hi;have li:=aE hi;have hp:(t.getD i []).getD k 0=t[i][k]:=(by simp [uq4,hit,hki]);have hcd:ab.getD i []=ab[i]:=(by simp [uq4,hi]);have hon:=sQ t ab k i;rw [gJ,hp,hcd];generalize jr t ab k i=F at*;generalize t[i][k]=z at*;generalize ab[i]=c at*;have htk:=aY aP F F.length (bt _);have e2:uq8 aP (F++[c])=uq8 aP F++[aP c]:=(by simp);have e0:(F++[c]).isEmpty=false:=(by simp);have e1:(F++[c]).length=F.length+1:=(by simp);simp -dsimp -implicitDefEqProofs only [pz,cm,ft,e7,↓reduceIte,eX];rcases hz:(z==1) with _|_
   . simp -dsimp -implicitDefEqProofs only [go_sem,li,gi,gk,hz];((with_reducible and_intros);all_goals try first|omega|(refine ⟨?_,?_⟩<;>omega)|exact rfl)
   simp only [if_true];simp -dsimp -implicitDefEqProofs only [go_sem,li,gi,gk,gc,hz];((with_reducible and_intros);all_goals try omega);refine .inr ⟨by omega,(by cases F with|nil=>exact .inr rfl|cons=>exact .inl rfl),⟨by omega,by omega⟩,?_⟩;rw [e0,e2];simp -dsimp -implicitDefEqProofs only [go_sem];exact rfl
 have hon:=sQ t ab k ab.length;have hmm:∀x∈jr t ab k ab.length,(x.length:Int)=m.ae:=λx hx=>hc x (yH (bt _) x hx);have hq:=Mk m (jr t ab k ab.length) hm (by omega) hmm;unfold bO;generalize jr t ab k ab.length=F at*;have htk:=aY aP F F.length (bt _);simp -dsimp -implicitDefEqProofs only [go_sem,ay];refine jl 9 0 ⟨1,false⟩ F.isEmpty (uq8 aP F) hq (by decide) ?_ ?_ λr hr=> ?_
 . simp -dsimp -implicitDefEqProofs only [go_sem]
 . refine oZ ?_ rfl ?_
   . simp -dsimp -implicitDefEqProofs only [go_sem]
   have h:=kx (l:=9) (v:=0) (sh:=⟨1,false⟩) (ys:=uq8 aP F) (xs:=[]) (r:=[]) 0 F.length (by simp) trivial;rw [uq3,htk] at h;exact h
 subst hr;simp -dsimp -implicitDefEqProofs only [go_sem]
theorem kV (m:aL) (t ab:lL) (hm:aW m=true) (h0:ab.length<=1048576) (h1:ab.length<=t.length) (h2:0<t.length) (hk:∀i (hi:i<t.length),t[i].length=(t.getD 0 []).length) (hd:(t.getD 0 []).length<=1048576) (hc:∀x∈ab,(x.length:Int)=m.ae):
 Fn pG 145 [jQ m t,aQ ab] false (· =p9 (az m t ab (t.getD 0 []).length)):=by
 refine Fn.bY 25 [.tmp 4] func145 (hv:= ?_);have g0:=get_some h2;have hg:t.getD 0 []=t[0]:=by simp [uq4,h2]
 rw [hg] at hk hd ⊢;simp -dsimp -implicitDefEqProofs only [go_sem];refine aj.up [1,2] [13,21,22,23] [7] t[0].length (λ_=>True) (λi=>[(6,eI i),(5,.ref 7 0 0 i)]) (λi=>[(7,.row 0 ⟨1,true⟩ (i==0) ((az m t ab i).map sM))]) trivial ?_ rfl (λi hi _=> ?_) (λ_=> ?_)
 . simp -dsimp -implicitDefEqProofs only [go_sem,sR]
 . have hq:=Ml m t ab i hm h0 h1 (λj hj=>by rw [hk j hj];exact hi) hc;have hll:=dM m t ab i;have li:=aE hi;rw [sS];generalize az m t ab i=F at*;generalize bO m t ab i=L at*;have htk:=aY sM F i (by omega);have e0:(i+1==0)=false:=rfl;have e2:uq8 sM (F++[L])=uq8 sM F++[sM L]:=(by simp);simp -dsimp -implicitDefEqProofs only [go_sem,g0,li];refine ⟨by omega,?_⟩;refine au (hq) (by simp [ax,ao,aq,aF]) ?_;simp -dsimp -implicitDefEqProofs only [go_sem];refine .inr ⟨by omega,by omega,(by cases i with|zero=>exact .inr rfl|succ i=>exact .inl rfl),⟨by omega,by omega⟩,rfl,?_⟩;rw [e0,e2];simp -dsimp -implicitDefEqProofs only [go_sem,htk]
 have hll:=dM m t ab t[0].length;generalize az m t ab t[0].length=F at*;have htk:=aY sM F t[0].length (by omega);simp -dsimp -implicitDefEqProofs only [go_sem,g0,ay];((with_reducible and_intros);all_goals try omega);all_goals rw [htk]
theorem qZ (l:lL) (c:lI) (h0:c.length<=l.length) (h1:l.length<=1048576) (h2:∀x∈l,x.length<=1048576):Fn pG 191 [sM l,aP c] true (· =eB (dV l c)):=by
 refine Fn.av 23 [.tmp 4] func191 (hv:= ?_);simp -dsimp -implicitDefEqProofs only [go_sem];refine aj.up [1,2] [8,21] [] c.length (λi=>((bd i).all λi=>has (l.getD i []) (c.getD i 0))=true) (λi=>[(5,eI i)]) (λ_=>[]) rfl ?_ rfl (λi hi hI=> ?_) (λhI=> ?_)
 . simp -dsimp -implicitDefEqProofs only [go_sem]
 . have gi:=get_some (show i<l.length by omega);have gc:=get_some hi;have li:=aE hi;have hp:has (l.getD i []) (c.getD i 0)=has l[i] c[i]:=(by simp [uq4,hi,show i<l.length by omega]);have hq:=FJ l[i] c[i] (h2 _ (uq6 _));have no:has l[i] c[i]=false->dV l c=false:=λh=>b7 hi (by rw [hp];exact h);have yes:has l[i] c[i]=true->((bd (i+1)).all λi=>has (l.getD i []) (c.getD i 0))=true:=λh=>by rw [bh,hI,hp,h];rfl
   clear hp hI;generalize l[i]=x at*;generalize c[i]=z at*;simp -dsimp -implicitDefEqProofs only [go_sem,li];refine aj.draw mixed rfl ?_;simp -dsimp -implicitDefEqProofs only [go_sem,gi,gc];((with_reducible and_intros);all_goals try omega);refine an hq ?_;simp -dsimp -implicitDefEqProofs only [go_sem];refine ⟨by exact rfl,?_⟩;rcases hb:has x z with _|_
   . rw [no hb];simp -dsimp -implicitDefEqProofs only [go_sem]
   simp -dsimp -implicitDefEqProofs only [go_sem];refine ⟨⟨by omega,by omega⟩,?_,rfl⟩;rw [←bm];exact yes hb
 simp -dsimp -implicitDefEqProofs only [go_sem,ay];rw [show dV l c=true from hI]
theorem q_ (m:aL) (t ab:lL) (hm:aW m=true) (h0:ab.length<=1000) (h1:ab.length<=t.length) (h2:0<t.length) (hk:∀i (hi:i<t.length),t[i].length=(t.getD 0 []).length) (hd:(t.getD 0 []).length<=1000) (hc:∀x∈ab,(x.length:Int)=m.ae):
 Fn pG 140 [jQ m t,aQ ab] false (· =aQ (gS m t ab)):=by
 have ⟨⟨n1,n2⟩,n3,n4⟩:=aI hm;refine Fn.bY 52 [.tmp 4] func140 (hv:= ?_);have hq:=kV m t ab hm (by omega) h1 h2 hk (by omega) hc;simp -dsimp -implicitDefEqProofs only [go_sem];refine au (hq) (by simp [ax,ao,aq,aF]) ?_;clear hq;simp -dsimp -implicitDefEqProofs only [go_sem];have hll:=dM m t ab (t.getD 0 []).length;refine aj.up [1,2,5] [15,21,43,48,49,50] [12] ab.length (λ_=>True) (λi=>[(7,eI i),(6,.ref 12 0 0 (jT m t ab i).length)]) (λi=>[(12,.row 0 ⟨1,false⟩ (jT m t ab i).isEmpty ((jT m t ab i).map aP))]) trivial ?_ rfl (λi hi _=> ?_) (λ_=> ?_)
 . simp -dsimp -implicitDefEqProofs only [go_sem,yI,List.isEmpty_nil]
 . have hfl:=kA m t ab i;have li:=aE hi;have hmul:i*(t.getD 0 []).length<=1000*1000:=Nat.mul_le_mul (by omega) hd;rw [nG];generalize jT m t ab i=H at*;simp -dsimp -implicitDefEqProofs only [go_sem,li];refine aj.up [1,2,5,7] [21,43,48,49,50] [12] (t.getD 0 []).length (λ_=>True) (λk=>[(8,eI k),(6,.ref 12 0 0 (H++oo m t ab i k).length)]) (λk=>[(12,.row 0 ⟨1,false⟩ (H++oo m t ab i k).isEmpty ((H++oo m t ab i k).map aP))]) trivial ?_ rfl (λk hk' _=> ?_) (λ_=> ?_)
   . simp -dsimp -implicitDefEqProofs only [go_sem,BU,List.append_nil]
   . have hit:i<t.length:=(by omega);have hki:k<t[i].length:=(by rw [hk i hit];exact hk');have gi:=get_some hit;have gk:=get_some hki;have gc:=get_some hi;have gl:=jS m t ab hk';have hp:(t.getD i []).getD k 0=t[i][k]:=(by simp [uq4,hit,hki]);have hcd:ab.getD i []=ab[i]:=(by simp [uq4,hi]);have hfk:=sT m t ab i k;have hL:=kU m t ab k;have hcl:=hc _ (uq6 hi);have hop:=qZ (bO m t ab k) ab[i] (by omega) (by omega) (λx hx=>by have:=iG m t ab k x hx;omega);rw [pT,hp,hcd];generalize oo m t ab i k=F at*;generalize bO m t ab k=L at*;generalize az m t ab (t.getD 0 []).length=LS at*;have lk:decide ((k:Int)<(LS.length:Int))=true:=dT (by omega);generalize t[i][k]=z at*;generalize ab[i]=c at*;generalize YN:dV L c=ob at*;have hG:(H++F).length<=1001000:=(by rw [uq7];omega);have e9:∀x:lI,H++(F++[x])=(H++F)++[x]:=λx=>by simp
     simp only [e9,apply_ite (λl=>H++l)];generalize H++F=G at*;have htk:=aY aP G G.length (bt _);have e0:(G++[[(i:Int),(k:Int)]]).isEmpty=false:=(by simp);have e1:(G++[[(i:Int),(k:Int)]]).length=G.length+1:=(by simp);have e2:uq8 aP (G++[[(i:Int),(k:Int)]])=uq8 aP G++[aP [(i:Int),(k:Int)]]:=(by simp);simp -dsimp -implicitDefEqProofs only [pz,cm,ft,e7,↓reduceIte,eX];rcases hz:(z==0) with _|_
     . simp -dsimp -implicitDefEqProofs only [go_sem,lk];refine aj.draw mixed rfl ?_;simp -dsimp -implicitDefEqProofs only [go_sem,gi,gk,hz];((with_reducible and_intros);all_goals try first|omega|(refine ⟨?_,?_⟩<;>omega)|exact rfl)
     simp -dsimp -implicitDefEqProofs only [go_sem,lk];refine aj.draw mixed rfl ?_;simp -dsimp -implicitDefEqProofs only [go_sem,gi,gk,gc,gl,hz];((with_reducible and_intros);all_goals try omega);refine an hop ?_;cases ob with
     |false=>
      simp -dsimp -implicitDefEqProofs only [go_sem];((with_reducible and_intros);all_goals try first|(refine ⟨?_,?_⟩<;>omega)|exact rfl)
     |true=>
      simp -dsimp -implicitDefEqProofs only [go_sem];refine ⟨by exact rfl,?_⟩;refine .inr ⟨by omega,(by cases G with|nil=>exact .inr rfl|cons=>exact .inl rfl),⟨by omega,by omega⟩,rfl,?_⟩;rw [e0,e2];simp -dsimp -implicitDefEqProofs only [go_sem];all_goals first|exact rfl|skip
   simp -dsimp -implicitDefEqProofs only [go_sem,hll,ay];((with_reducible and_intros);all_goals try first|(refine ⟨?_,?_⟩<;>omega)|exact rfl)
 have hfl:=kA m t ab ab.length;unfold gS;generalize jT m t ab ab.length=F at*;have htk:=aY aP F F.length (bt _);simp -dsimp -implicitDefEqProofs only [go_sem,ay];all_goals rw [htk]
theorem Da (l:lL) (c:lI) (h0:c.length<=l.length) (h1:l.length<=1048576) (h2:∀x∈l,x.length<=1048576):Fn pG 221 [sM l,aP c] true (· =eB (dV l c)):=by
 refine Fn.av 23 [.tmp 4] func221 (hv:= ?_);simp -dsimp -implicitDefEqProofs only [go_sem];refine aj.up [2,7,8] [20] [] c.length (λi=>((bd i).all λi=>has (l.getD i []) (c.getD i 0))=true) (λi=>[(9,eI i)]) (λ_=>[]) rfl ?_ rfl (λi hi hI=> ?_) (λhI=> ?_)
 . simp -dsimp -implicitDefEqProofs only [go_sem]
 . have gi:=get_some (show i<l.length by omega);have gc:=get_some hi;have li:=aE hi;have hp:has (l.getD i []) (c.getD i 0)=has l[i] c[i]:=(by simp [uq4,hi,show i<l.length by omega]);have hq:=qT l[i] c[i] (h2 _ (uq6 _));have no:has l[i] c[i]=false->dV l c=false:=λh=>b7 hi (by rw [hp];exact h);have yes:has l[i] c[i]=true->((bd (i+1)).all λi=>has (l.getD i []) (c.getD i 0))=true:=λh=>by rw [bh,hI,hp,h];rfl
   clear hp hI;generalize l[i]=x at*;generalize c[i]=z at*;simp -dsimp -implicitDefEqProofs only [go_sem,gi,gc,li];((with_reducible and_intros);all_goals try omega);refine aa hq ?_;rcases hb:has x z with _|_
   . rw [no hb];simp -dsimp -implicitDefEqProofs only [go_sem]
   simp -dsimp -implicitDefEqProofs only [go_sem];refine ⟨⟨by omega,by omega⟩,?_,rfl⟩;rw [←bm];exact yes hb
 simp -dsimp -implicitDefEqProofs only [go_sem,ay];rw [show dV l c=true from hI]
theorem JZ (k:lL) (i:Nat):∀n,n<=k.length->((k.take n).map λx=>x.getD i 0).length=n:=λn h=>by simp [h]
theorem PN (m:aL) (keys:lL) (hm:aW m=true) (h0:keys.length<=1048576) (hk3:∀k∈keys,(k.length:Int)=m.ae/\∀x∈k,0<=x/\x<m.ak):
 Fn pG 214 [ky m,aQ keys] false (· =sM (kg m keys m.ae.toNat)):=by
 have ⟨⟨n1,n2⟩,n3,n4⟩:=aI hm;refine Fn.bY 42 [.cell 4 121] func214 (hv:= ?_);simp -dsimp -implicitDefEqProofs only [go_sem];refine aj.up [1,4,5,12] [16,18,28,29,32,36,37,38] [5,38] m.ae.toNat (λ_=>True) (λi=>[(13,eI i)]) (λi=>[(5,.box 0 [.ref 38 0 0 i]),(38,.row 0 ⟨1,false⟩ (i==0) ((kg m keys i).map aP))]) trivial ?_ rfl (λi hi _=> ?_) (λ_=> ?_)
 . simp -dsimp -implicitDefEqProofs only [go_sem,BT]
 . have hlt:decide ((i:Int)<m.ae)=true:=dT (by omega);have hhl:=o8 m keys i
   have Tc:=Iv (m:=m) (keys:=keys) (i:=i) (λk hk=>by
    obtain ⟨h1,h2⟩:=hk3 k hk;have hil:i<k.length:=(by omega);rw [show k.getD i 0=k[i] by simp [uq4,hil]]
    exact h2 _ (uq6 hil))
   rw [BQ,←Tc];clear Tc;generalize kg m keys i=H at*;simp -dsimp -implicitDefEqProofs only [go_sem,hlt];refine aj.up [1,4,5,6,12,13,17,18] [28,29] [16] keys.length (λ_=>True) (λk=>[(19,eI k),(7,.ref 16 0 0 k)]) (λk=>[(16,.row 0 ⟨1,false⟩ true (((keys.take k).map λx=>x.getD i 0).map eI))]) trivial ?_ rfl (λk hk' _=> ?_) (λ_=> ?_)
   . simp -dsimp -implicitDefEqProofs only [go_sem,db,List.map_nil]
   . have hkl:i<keys[k].length:=(by have:=(hk3 _ (uq6 hk')).1;omega);have gk:=get_some hk';have gi:=get_some hkl;have lk:=aE hk';have hgd:keys[k].getD i 0=keys[k][i]:=(by simp [uq4,hkl]);have ht:(keys.take (k+1)).map (λx=>x.getD i 0)=(keys.take k).map (λx=>x.getD i 0)++[keys[k][i]]:=by
      rw [fq hk',List.map_append,List.map_singleton,hgd]
     have hln:=JZ keys i k (by omega);rw [ht];clear ht hgd;generalize (keys.take k).map (λx=>x.getD i 0)=F at*;generalize keys[k]=x at*;generalize x[i]=z at*;have htk:=aY eI F k (by omega);simp -dsimp -implicitDefEqProofs only [go_sem,lk,gk,gi,htk];((with_reducible and_intros);all_goals try first|omega|(refine ⟨?_,?_⟩<;>omega)|exact rfl);all_goals first|(simp;done)|skip
   have hln:=JZ keys i keys.length (bt _);have hr:vv (keys.map λk=>k.getD i 0)=Lib.compact (((keys.take keys.length).map λk=>k.getD i 0).mergeSort λx y=>decide (x<=y)):=(by rw [dw,PG]);rw [hr];clear hr;generalize (keys.take keys.length).map (λx=>x.getD i 0)=F at*;simp -dsimp -implicitDefEqProofs only [go_sem,ay];refine ⟨by omega,?_⟩;refine aU [16] ?_;simp -dsimp -implicitDefEqProofs only [go_sem];rw [←hln];refine aO (SM 0 F (by omega)) ?_;simp -dsimp -implicitDefEqProofs only [go_sem];refine aj.draw mixed rfl ?_;have hle:(F.mergeSort λx y=>decide (x<=y)).length=F.length:=List.length_mergeSort _;have hcl:=jR (F.mergeSort λx y=>decide (x<=y));simp -dsimp -implicitDefEqProofs only [go_sem];refine ⟨by omega,?_⟩;refine Iq (zs:=F.mergeSort λx y=>decide (x<=y)) ?_ hle.symm (by omega) ?_
   . simp -dsimp -implicitDefEqProofs only [go_sem]
   generalize Lib.compact (F.mergeSort λx y=>decide (x<=y))=C at*;have e0:(i+1==0)=false:=rfl;have e2:uq8 aP (H++[C])=uq8 aP H++[aP C]:=(by simp);have htk:=aY aP H i (by omega);have htC:cP C.length (uq8 eI (C++List.replicate ((F.mergeSort λx y=>decide (x<=y)).length-C.length) 0))=uq8 eI C:=(by rw [←uq9];simp);simp -dsimp -implicitDefEqProofs only [go_sem,htC];refine ⟨by omega,.inr ⟨by omega,by omega,(by cases i with|zero=>exact .inr rfl|succ i=>exact .inl rfl),by exact rfl,⟨by omega,by omega⟩,rfl,?_⟩⟩;rw [e0,e2];simp -dsimp -implicitDefEqProofs only [go_sem,htk]
 have hlt:decide (((m.ae.toNat:Nat):Int)<m.ae)=false:=dF (by omega);have hhl:=o8 m keys m.ae.toNat;generalize kg m keys m.ae.toNat=H at*;have htk:=aY aP H m.ae.toNat (by omega);simp -dsimp -implicitDefEqProofs only [go_sem,hlt];((with_reducible and_intros);all_goals try omega);all_goals rw [htk]
def jd (ab:lL) (rs:lI):Nat->lL
 |0=>[]
 |j+1=>if decide (rs.getD j 0<(ab.length:Int))=true then jd ab rs j++[ab.getD (rs.getD j 0).toNat []] else jd ab rs j
theorem Iw (ab:lL) (rs:lI):jd ab rs 0=[]:=rfl
theorem kW (ab:lL) (rs:lI) (j:Nat):jd ab rs (j+1)=if decide (rs.getD j 0<(ab.length:Int))=true then jd ab rs j++[ab.getD (rs.getD j 0).toNat []] else jd ab rs j:=rfl
theorem BW (ab:lL) (rs:lI):∀j,(jd ab rs j).length<=j
 |0=>bt _
 |j+1=>by
  have:=BW ab rs j;rw [kW];split
  . simp;omega
  omega
theorem Mm (ab:lL) (rs:lI) (x:Int):jd ab (rs++[x]) (rs++[x]).length=if decide (x<(ab.length:Int))=true then jd ab rs rs.length++[ab.getD x.toNat []] else jd ab rs rs.length:=by
 have key:∀j,j<=rs.length->jd ab (rs++[x]) j=jd ab rs j:=by
  intro j;induction j with
  |zero=>intro _;rfl
  |succ j ih=>
   intro hj;have:(rs++[x]).getD j 0=rs.getD j 0:=(by simp [uq4,List.getElem?_append_left (show j<rs.length by omega)]);rw [kW,kW,ih (by omega),this]
 have e:(rs++[x]).length=rs.length+1:=by simp
 have hx:(rs++[x]).getD rs.length 0=x:=by simp [uq4]
 rw [e,kW,key _ (bt _),hx]
theorem yJ (t ab:lL) (k:Nat):∀n,n<=t.length->jd ab (vZ (λi=>(t.getD i []).getD k 0==1) n) (vZ (λi=>(t.getD i []).getD k 0==1) n).length=jr t ab k (min n ab.length)
 |0,_=>by rw [o5,Nat.zero_min];rfl
 |n+1,hn=>by
  have ih:=yJ t ab k n (by omega);rw [mP];split
  . rename_i h;rw [Mm,ih];by_cases hc:n<ab.length
    . rw [if_pos (dT (by omega)),show min (n+1) ab.length=n+1 by omega,show min n ab.length=n by omega,gJ,if_pos h];rfl
    rw [if_neg (by simp;omega),show min (n+1) ab.length=min n ab.length by omega]
  rename_i h;rw [ih];by_cases hc:n<ab.length
  . rw [show min (n+1) ab.length=n+1 by omega,show min n ab.length=n by omega,gJ,if_neg h]
  rw [show min (n+1) ab.length=min n ab.length by omega]
theorem Mn {t ab:lL} (h:ab.length<=t.length) (k:Nat):jd ab (jn t k) (jn t k).length=jr t ab k ab.length:=by
 have:=yJ t ab k t.length (bt _)
 rwa [show min t.length ab.length=ab.length by omega] at this
theorem Ix {t:lL} {k j:Nat} (h:j<(jn t k).length):0<=(jn t k)[j]:=by have h1:(jn t k)[j]∈jn t k:=uq6 h;obtain ⟨i,_,e,_⟩:=sJ (p:=λi=>(t.getD i []).getD k 0==1) (i:=t.length) h1;omega
theorem Iy (t:lL) (k:Nat):(jn t k).length<=t.length:=pR _ _
theorem gu (m:aL) (t ab:lL) (hm:aW m=true) (h0:t.length<=1000) (h1:ab.length<=t.length) (h2:0<t.length) (hk:∀i (hi:i<t.length),t[i].length=(t.getD 0 []).length) (hd:(t.getD 0 []).length<=1000) (hc:∀x∈ab,(x.length:Int)=m.ae/\∀y∈x,0<=y/\y<m.ak):
 Fn pG 162 [jQ m t,aQ ab] false (· =p9 (az m t ab (t.getD 0 []).length)):=by
 refine Fn.bY 49 [.tmp 4] func162 (hv:= ?_);have g0:=get_some h2;have hg:t.getD 0 []=t[0]:=by simp [uq4,h2]
 rw [hg] at hk hd ⊢;simp -dsimp -implicitDefEqProofs only [go_sem,g0];refine ⟨by omega,?_⟩;refine aj.up [1,2,15] [19,22,23,30,37,38,44,45,46] [10] t[0].length (λ_=>True) (λi=>[(16,eI i),(5,.ref 10 0 0 i)]) (λi=>[(10,.row 0 ⟨1,true⟩ (i==0) ((az m t ab i).map sM))]) trivial ?_ rfl (λi hi _=> ?_) (λ_=> ?_)
 . simp -dsimp -implicitDefEqProofs only [go_sem,sR]
 . have hrf:=BO m t i (by omega) (λj hj=>by rw [hk j hj];exact hi);have hll:=dM m t ab i;have li:=aE hi;have hrl:=Iy t i;have hrg:=λj (h:j<(jn t i).length)=>Ix h;have hon:=sQ t ab i ab.length;have hmm:∀x∈jr t ab i ab.length,(x.length:Int)=m.ae/\∀y∈x,0<=y/\y<m.ak:=λx hx=>hc x (yH (bt _) x hx);have hq:=PN m (jr t ab i ab.length) hm (by omega) hmm;have cO:=Mn h1 i;rw [sS];unfold bO;generalize az m t ab i=F at*;have htk:=aY sM F i (by omega);have e0:(i+1==0)=false:=rfl;have e2:∀L:lL,uq8 sM (F++[L])=uq8 sM F++[sM L]:=λL=>by simp
   generalize jr t ab i ab.length=K at*;simp -dsimp -implicitDefEqProofs only [go_sem,li];refine aa hrf ?_;clear hrf;generalize jn t i=R at*;simp -dsimp -implicitDefEqProofs only [go_sem];refine aj.up [1,2,5,15,16,22,23] [30,37,38] [19] R.length (λ_=>True) (λj=>[(24,eI j),(7,.ref 19 0 0 (jd ab R j).length)]) (λj=>[(19,.row 0 ⟨1,false⟩ (jd ab R j).isEmpty ((jd ab R j).map aP))]) trivial ?_ rfl (λj hj _=> ?_) (λ_=> ?_)
   . simp -dsimp -implicitDefEqProofs only [go_sem,Iw,List.isEmpty_nil]
   . have lj:=aE hj;have gj:=get_some hj;have hgd:R.getD j 0=R[j]:=(by simp [uq4,hj]);have hcl:=BW ab R j;have hr0:=hrg j hj;rw [kW,hgd];generalize jd ab R j=G at*;generalize R[j]=z at*;have htG:=aY aP G G.length (bt _);simp -dsimp -implicitDefEqProofs only [pz,cm,ft,e7,↓reduceIte,eX];rcases hz:decide (z<(ab.length:Int)) with _|_
     . simp -dsimp -implicitDefEqProofs only [go_sem,lj,gj,hz];((with_reducible and_intros);all_goals try first|omega|(refine ⟨?_,?_⟩<;>omega)|exact rfl)
     have hzl:z.toNat<ab.length:=(by have:=oT hz;omega);have gz:=get_some hzl;have hcd:ab.getD z.toNat []=ab[z.toNat]:=(by simp [uq4,hzl]);simp only [if_true];rw [hcd];generalize ab[z.toNat]=c at*;have f0:(G++[c]).isEmpty=false:=(by simp);have f2:uq8 aP (G++[c])=uq8 aP G++[aP c]:=(by simp);simp -dsimp -implicitDefEqProofs only [go_sem,lj,gj,gz,hz];refine ⟨⟨by omega,by omega⟩,⟨by omega,by omega⟩,?_⟩;refine .inr ⟨by omega,(by cases G with|nil=>exact .inr rfl|cons=>exact .inl rfl),⟨by omega,by omega⟩,?_⟩;rw [f0,f2];simp -dsimp -implicitDefEqProofs only [go_sem];exact rfl
   rw [cO];have htK:=aY aP K K.length (bt _);simp -dsimp -implicitDefEqProofs only [go_sem,ay];refine jl 19 0 ⟨1,false⟩ K.isEmpty (uq8 aP K) hq (by decide) ?_ ?_ λr hr=> ?_
   . simp -dsimp -implicitDefEqProofs only [go_sem]
   . refine oZ ?_ rfl ?_
     . simp -dsimp -implicitDefEqProofs only [go_sem]
     have h:=kx (l:=19) (v:=0) (sh:=⟨1,false⟩) (ys:=uq8 aP K) (xs:=[]) (r:=[]) 0 K.length (by simp) trivial;rw [uq3,htK] at h;exact h
   subst hr;generalize kg m K m.ae.toNat=L at*;simp -dsimp -implicitDefEqProofs only [go_sem];refine .inr ⟨by omega,by omega,(by cases i with|zero=>exact .inr rfl|succ i=>exact .inl rfl),⟨by omega,by omega⟩,rfl,?_⟩;rw [e0,e2];simp -dsimp -implicitDefEqProofs only [go_sem,htk]
 have hll:=dM m t ab t[0].length;generalize az m t ab t[0].length=F at*;have htk:=aY sM F t[0].length (by omega);simp -dsimp -implicitDefEqProofs only [go_sem,ay];((with_reducible and_intros);all_goals try omega);all_goals rw [htk]
theorem nH (m:aL) (t ab:lL) (hm:aW m=true) (h0:t.length<=1000) (h1:ab.length<=t.length) (h2:0<t.length) (hk:∀i (hi:i<t.length),t[i].length=(t.getD 0 []).length) (hd:(t.getD 0 []).length<=1000) (hc:∀x∈ab,(x.length:Int)=m.ae/\∀y∈x,0<=y/\y<m.ak):
 Fn pG 231 [jQ m t,aQ ab] false (· =aQ (gS m t ab)):=by
 have ⟨⟨n1,n2⟩,n3,n4⟩:=aI hm;refine Fn.bY 52 [.tmp 4] func231 (hv:= ?_);have hq:=gu m t ab hm h0 h1 h2 hk hd hc;simp -dsimp -implicitDefEqProofs only [go_sem];refine au (hq) (by simp [ax,ao,aq,aF]) ?_;clear hq;simp -dsimp -implicitDefEqProofs only [go_sem];have hll:=dM m t ab (t.getD 0 []).length;refine aj.up [2,6,15,16] [10,23,41,46,47,48] [11] ab.length (λ_=>True) (λi=>[(17,eI i),(5,.ref 11 0 0 (jT m t ab i).length)]) (λi=>[(11,.row 0 ⟨1,false⟩ (jT m t ab i).isEmpty ((jT m t ab i).map aP))]) trivial ?_ rfl (λi hi _=> ?_) (λ_=> ?_)
 . simp -dsimp -implicitDefEqProofs only [go_sem,yI,List.isEmpty_nil]
 . have hfl:=kA m t ab i;have li:=aE hi;have gc:=get_some hi;have hmul:i*(t.getD 0 []).length<=1000*1000:=Nat.mul_le_mul (by omega) hd;rw [nG];generalize jT m t ab i=H at*;simp -dsimp -implicitDefEqProofs only [go_sem,li,gc];refine ⟨by omega,?_⟩;refine aj.up [2,6,7,8,15,16,17,22,23] [10,41,46,47,48] [11] (t.getD 0 []).length (λ_=>True) (λk=>[(24,eI k),(5,.ref 11 0 0 (H++oo m t ab i k).length)]) (λk=>[(11,.row 0 ⟨1,false⟩ (H++oo m t ab i k).isEmpty ((H++oo m t ab i k).map aP))]) trivial ?_ rfl (λk hk' _=> ?_) (λ_=> ?_)
   . simp -dsimp -implicitDefEqProofs only [go_sem,BU,List.append_nil]
   . have hit:i<t.length:=(by omega);have hki:k<t[i].length:=(by rw [hk i hit];exact hk');have gi:=get_some hit;have gk:=get_some hki;have gl:=jS m t ab hk';have hp:(t.getD i []).getD k 0=t[i][k]:=(by simp [uq4,hit,hki]);have hcd:ab.getD i []=ab[i]:=(by simp [uq4,hi]);have hfk:=sT m t ab i k;have hL:=kU m t ab k;have hcl:=(hc _ (uq6 hi)).1;have hop:=Da (bO m t ab k) ab[i] (by omega) (by omega) (λx hx=>by have:=iG m t ab k x hx;omega);rw [pT,hp,hcd];generalize oo m t ab i k=F at*;generalize bO m t ab k=L at*;generalize az m t ab (t.getD 0 []).length=LS at*;have lk:decide ((k:Int)<(LS.length:Int))=true:=dT (by omega);generalize t[i][k]=z at*;generalize ab[i]=c at*;generalize YN:dV L c=ob at*;have hG:(H++F).length<=1001000:=(by rw [uq7];omega);have e9:∀x:lI,H++(F++[x])=(H++F)++[x]:=λx=>by simp
     simp only [e9,apply_ite (λl=>H++l)];generalize H++F=G at*;have htk:=aY aP G G.length (bt _);have e0:(G++[[(i:Int),(k:Int)]]).isEmpty=false:=(by simp);have e2:uq8 aP (G++[[(i:Int),(k:Int)]])=uq8 aP G++[aP [(i:Int),(k:Int)]]:=(by simp);simp -dsimp -implicitDefEqProofs only [pz,cm,ft,e7,↓reduceIte,eX];rcases hz:(z==0) with _|_
     . simp -dsimp -implicitDefEqProofs only [go_sem,gi,gk,gl,lk,hz];((with_reducible and_intros);all_goals try first|omega|(refine ⟨?_,?_⟩<;>omega)|exact rfl)
     simp -dsimp -implicitDefEqProofs only [go_sem,gi,gk,gl,lk,hz];((with_reducible and_intros);all_goals try omega);refine aa hop ?_;cases ob with
     |false=>
      simp -dsimp -implicitDefEqProofs only [go_sem];((with_reducible and_intros);all_goals try first|(refine ⟨?_,?_⟩<;>omega)|exact rfl)
     |true=>
      simp -dsimp -implicitDefEqProofs only [go_sem];refine .inr ⟨by omega,(by cases G with|nil=>exact .inr rfl|cons=>exact .inl rfl),⟨by omega,by omega⟩,rfl,?_⟩;rw [e0,e2];simp -dsimp -implicitDefEqProofs only [go_sem];all_goals first|exact rfl|skip
   simp -dsimp -implicitDefEqProofs only [go_sem,hll,ay];((with_reducible and_intros);all_goals try first|(refine ⟨?_,?_⟩<;>omega)|exact rfl)
 have hfl:=kA m t ab ab.length;unfold gS;generalize jT m t ab ab.length=F at*;have htk:=aY aP F F.length (bt _);simp -dsimp -implicitDefEqProofs only [go_sem,ay];all_goals rw [htk]
structure KS (σ:Type) where
 af:Nat
 zs:lI
 s:σ
def eO {τ:Type} (f:Nat->τ->τ × Bool) (t:τ):Nat->τ × Bool
 |0=>(t,true)
 |i+1=>if (eO f t i).2=true then f i (eO f t i).1 else eO f t i
theorem iX {τ:Type} {f:Nat->τ->τ × Bool} {t:τ} {i:Nat} (h:(eO f t i).2=true):eO f t (i+1)=f i (eO f t i).1:=by rw [eO,if_pos h]
theorem o9 {τ:Type} {f:Nat->τ->τ × Bool} {t:τ} {i:Nat} (h:(eO f t i).2=false):∀j,i<=j->eO f t j=eO f t i:=by
 intro j hj;induction j with
 |zero=>rw [show i=0 by omega]
 |succ j ih=>
  by_cases e:i=j+1
  . rw [e]
  have:=ih (by omega);rw [eO,this,if_neg (by rw [h];exact λe=>by cases e)]
def bA {σ:Type} (f:σ->lI->σ × Bool):σ->lL->σ × Bool
 |s,[]=>(s,true)
 |s,k::r=>if (f s k).2=true then bA f (f s k).1 r else f s k
theorem qx {σ:Type} {f:σ->lI->σ × Bool}:∀(a b:lL) (s:σ),bA f s (a++b)=if (bA f s a).2=true then bA f (bA f s a).1 b else bA f s a
 | [],b,s=>by simp [bA]
 |k::a,b,s=>by
  simp only [List.cons_append,bA];by_cases h:(f s k).2=true
  . simp only [h,if_true];exact qx a b _
  have h':(f s k).2=false:=by simpa using h
  simp [h']
def bH (m:aL) (c:lI) (d:Int):Bool:=c.isEmpty||decide (fj (d-c.getD (c.length-1) 0)<=m.step)
def fZ (m:aL) (c:lI) (d:Int):Bool:=decide ((aZ (c++[d]) c.length:Int)<=m.same)
def a6 (m:aL):Nat->lI->lL
 |0,c=>if (bf c c.length:Int)<m.least then [] else [c]
 |n+1,c=>(bd m.ak.toNat).flatMap λ(d:Nat)=>if (bH m c (d:Int)&&fZ m c (d:Int))=true then a6 m n (c++[(d:Int)]) else []
def bn {σ:Type} (m:aL) (f:σ->lI->σ × Bool):Nat->lI->KS σ->KS σ × Bool
 |0,c,t=>if (bf c c.length:Int)<m.least then (t,true) else (⟨t.af,t.zs,(f t.s c).1⟩,(f t.s c).2)
 |n+1,c,t=>eO (λ(d:Nat) t=>if bH m c d=true then if fZ m c d=true then bn m f n (c++[(d:Int)]) ⟨t.af+1,t.zs.take c.length++[(d:Int)],t.s⟩ else (⟨t.af+1,t.zs.take c.length++[(d:Int)],t.s⟩,true) else (t,true)) t m.ak.toNat
def aS {σ:Type} (m:aL) (f:σ->lI->σ × Bool) (n:Nat) (c:lI) (d:Nat) (t:KS σ):KS σ × Bool:=
 if bH m c d=true then if fZ m c d=true then bn m f n (c++[(d:Int)]) ⟨t.af+1,t.zs.take c.length++[(d:Int)],t.s⟩ else (⟨t.af+1,t.zs.take c.length++[(d:Int)],t.s⟩,true) else (t,true)
theorem dP {σ:Type} (m:aL) (f:σ->lI->σ × Bool) (n:Nat) (c:lI) (t:KS σ):bn m f (n+1) c t=eO (aS m f n c) t m.ak.toNat:=rfl
def DN {σ:Type} (c:lI) (t:KS σ):Prop:=t.zs.take c.length=c/\c.length<=t.zs.length
theorem sU {σ:Type} {c:lI} {t:KS σ} (h:DN c t) (d:Int):DN (c++[d]) (⟨t.af+1,t.zs.take c.length++[d],t.s⟩:KS σ):=by
 refine ⟨?_,?_⟩
 . show (t.zs.take c.length++[d]).take (c++[d]).length=_;rw [h.1];exact dw
 show (c++[d]).length<=(t.zs.take c.length++[d]).length;rw [h.1];exact bt _
theorem sV {σ:Type} {c:lI} {d:Int} {t:KS σ} (h:DN (c++[d]) t):DN c t:=by
 have h2:c.length<=t.zs.length:=by have:=h.2;simp at this;omega
 refine ⟨?_,h2⟩;have:=congrArg (cP c.length) h.1;simp only [List.take_take] at this;rw [show min c.length (c++[d]).length=c.length by simp] at this;rw [this];simp
theorem iH {σ:Type} (m:aL) (f:σ->lI->σ × Bool):∀(n:Nat) (c:lI) (t:KS σ),DN c t->DN c (bn m f n c t).1/\(bn m f n c t).1.s=(bA f t.s (a6 m n c)).1/\(bn m f n c t).2=(bA f t.s (a6 m n c)).2
 |0,c,t,h=>by
  simp only [bn,a6];split
  . exact ⟨h,rfl,rfl⟩
  refine ⟨h,?_,?_⟩
  . simp only [bA];split<;>rfl
  simp only [bA];split<;>simp_all
 |n+1,c,t,h=>by
  rw [dP,a6];generalize m.ak.toNat=D;induction D with
  |zero=>exact ⟨h,rfl,rfl⟩
  |succ D ih=>
   obtain ⟨i1,i2,i3⟩:=ih;rw [bm,List.flatMap_append,qx];rw [←i3];by_cases hb:(eO (aS m f n c) t D).2=true
   . rw [iX hb,if_pos hb,←i2];generalize (eO (aS m f n c) t D).1=u at i1;simp only [List.flatMap_cons,List.flatMap_nil,List.append_nil,aS];by_cases h1:bH m c D=true
     . by_cases h2:fZ m c D=true
       . rw [if_pos h1,if_pos h2,if_pos (by rw [h1,h2];rfl)];have:=iH m f n (c++[(D:Int)]) ⟨u.af+1,u.zs.take c.length++[(D:Int)],u.s⟩ (sU i1 D);exact ⟨sV this.1,this.2.1,this.2.2⟩
       rw [if_pos h1,if_neg h2,if_neg (by simp [h2])];exact ⟨sV (sU i1 D),rfl,rfl⟩
     rw [if_neg h1,if_neg (by simp [h1])];exact ⟨i1,rfl,rfl⟩
   rw [eO,if_neg hb,if_neg hb];exact ⟨i1,i2,by simpa using i3⟩
theorem pU {σ:Type} {m:aL} {f:σ->lI->σ × Bool} {n:Nat} {c:lI} {t:KS σ} (h:DN c t):∀D,DN c (eO (aS m f n c) t D).1
 |0=>h
 |D+1=>by
  have i1:=pU h D (m:=m) (f:=f) (n:=n);by_cases hb:(eO (aS m f n c) t D).2=true
  . rw [iX hb];generalize (eO (aS m f n c) t D).1=u at i1;simp only [aS];by_cases h1:bH m c D=true
    . by_cases h2:fZ m c D=true
      . rw [if_pos h1,if_pos h2];exact sV (iH m f n (c++[(D:Int)]) ⟨u.af+1,u.zs.take c.length++[(D:Int)],u.s⟩ (sU i1 D)).1
      rw [if_pos h1,if_neg h2];exact sV (sU i1 D)
    rw [if_neg h1];exact i1
  rw [eO,if_neg hb];exact i1
theorem kh (m:aL) (hm:aW m=true):∀(n:Nat) (c:lI),(a6 m n c).length<=8^n
 |0,c=>by simp only [a6];split<;>simp
 |n+1,c=>by
  have hd:m.ak.toNat<=8:=by have:=aI hm;omega
  have:∀D,((bd D).flatMap λ(d:Nat)=>if (bH m c (d:Int)&&fZ m c (d:Int))=true then a6 m n (c++[(d:Int)]) else []).length<=D*8^n:=by
   intro D;induction D with
   |zero=>simp
   |succ D ih=>
    rw [bm,List.flatMap_append,uq7,Nat.succ_mul];refine Nat.add_le_add ih ?_;simp only [List.flatMap_cons,List.flatMap_nil,List.append_nil];split
    . exact kh m hm n _
    exact Nat.zero_le _
  rw [a6,Nat.pow_succ,Nat.mul_comm (8^n) 8];exact Nat.le_trans (this _) (Nat.mul_le_mul_right _ hd)
theorem nI (m:aL):∀(n:Nat) (c k:lI),k∈a6 m n c->k.take c.length=c/\k.length=c.length+n
 |0,c,k,h=>by
  simp only [a6] at h;split at h
  . cases h
  simp at h;subst h;simp
 |n+1,c,k,h=>by
  simp only [a6,List.mem_flatMap,b6] at h;obtain ⟨d,_,h⟩:=h;split at h
  . have:=nI m n _ k h;have h1:=congrArg (cP c.length) this.1;simp only [List.take_take] at h1;rw [show min c.length (c++[(d:Int)]).length=c.length by simp] at h1;refine ⟨by rw [h1];simp,by rw [this.2];simp;omega⟩
  cases h
theorem wq {m:aL} (hm:aW m=true) {f:Int->lI->Int × Bool} {n:Nat} {c:lI} (hc:∀(c':lI) (t:KS Int),t.s<=(bn m f n c' t).1.s/\(bn m f n c' t).1.s<=t.s+8^n) (t:KS Int):
 ∀D:Nat,t.s<=(eO (aS m f n c) t D).1.s/\(eO (aS m f n c) t D).1.s<=t.s+D*8^n
 |0=>by simp [eO]
 |D+1=>by
  have ih:=wq hm hc t D (c:=c);have hp:(0:Int)<=8^n:=Int.pow_nonneg (by decide);have e:((D+1:Nat):Int)*8^n=(D:Int)*8^n+8^n:=by rw [Int.natCast_add,Int.add_mul];simp
  rw [e];by_cases hb:(eO (aS m f n c) t D).2=true
  . rw [iX hb];generalize (eO (aS m f n c) t D).1=u at ih;simp only [aS];split
    . split
      . have:=hc (c++[(D:Int)]) ⟨u.af+1,u.zs.take c.length++[(D:Int)],u.s⟩;simp only at this;omega
      simp only;omega
    simp only;omega
  rw [eO,if_neg hb];omega
theorem yK {m:aL} (hm:aW m=true) {f:Int->lI->Int × Bool} (hf:∀s k,s<=(f s k).1/\(f s k).1<=s+1):∀(n:Nat) (c:lI) (t:KS Int),t.s<=(bn m f n c t).1.s/\(bn m f n c t).1.s<=t.s+8^n
 |0,c,t=>by
  simp only [bn];have:=hf t.s c;split<;>simp<;>omega
 |n+1,c,t=>by
  have hd:m.ak.toNat<=8:=by have:=aI hm;omega
  have:=wq hm (yK hm hf n) t m.ak.toNat (c:=c);have hp:(0:Int)<=8^n:=Int.pow_nonneg (by decide);have h2:(m.ak.toNat:Int)*8^n<=8*8^n:=Int.mul_le_mul_of_nonneg_right (by omega) hp;have h3:(8:Int)^(n+1)=8*8^n:=by rw [Int.pow_succ,Int.mul_comm]
  rw [dP,h3];omega
def fH (s:Int) (_:lI):Int × Bool:=(s+1,true)
def cq (key:lI) (s:Int) (k:lI):Int × Bool:=if k=key then (s,false) else (s+1,true)
theorem BX:∀(ks:lL) (s:Int),bA fH s ks=(s+ks.length,true)
 | [],s=>by simp [bA]
 |k::r,s=>by show bA fH (s+1) r=_;rw [BX r];simp;omega
theorem yL {key:lI}:∀(a b:lL) (s:Int),key∉a->bA (cq key) s (a++key::b)=(s+a.length,false)
 | [],b,s,_=>by simp [bA,cq]
 |k::a,b,s,h=>by
  have h1:k≠key:=λe=>h (by simp [e]);have h2:cq key s k=(s+1,true):=by simp [cq,h1]
  rw [List.cons_append,bA,h2];show bA (cq key) (s+1) _=_;rw [yL a b (s+1) λhh=>h (List.mem_cons_of_mem _ hh)];simp;omega
def eP (m:aL) (c:lI):Bool:=(bd c.length).all λi=>decide ((aZ c i:Int)<=m.same)&&cw m c i
theorem vy {m:aL} {c:lI} {d:Int} {i:Nat} (h:i<c.length):cw m (c++[d]) i=cw m c i:=by
 have g:∀j,j<c.length->(c++[d]).getD j 0=c.getD j 0:=λj hj=>by simp [uq4,List.getElem?_append_left hj]
 unfold cw;rw [g i h,g (i-1) (by omega)]
theorem BY {c:lI} {d:Int} {i:Nat} (h:i<c.length):aZ (c++[d]) i=aZ c i:=by have:=yD (c++[d]) c.length i h;simp at this;exact this.symm
theorem js (m:aL) (c:lI) (d:Int):eP m (c++[d])=(eP m c&&(bH m c d&&fZ m c d)):=by
 have h1:(bd c.length).all (λi=>decide ((aZ (c++[d]) i:Int)<=m.same)&&cw m (c++[d]) i)=eP m c:=by
  unfold eP;rw [Bool.eq_iff_iff,uq1,uq1];constructor
  . intro h i hi;have:=h i hi
    rwa [BY (b6.1 hi),vy (b6.1 hi)] at this
  intro h i hi;rw [BY (b6.1 hi),vy (b6.1 hi)];exact h i hi
 have h2:cw m (c++[d]) c.length=bH m c d:=by
  unfold cw bH;cases c with
  |nil=>simp
  |cons x r=>
   have g1:((x::r)++[d]).getD (x::r).length 0=d:=(by simp [uq4]);have g2:((x::r)++[d]).getD ((x::r).length-1) 0=(x::r).getD ((x::r).length-1) 0:=by simp only [uq4];rw [List.getElem?_append_left (by simp)]
   rw [g1,g2];simp
 rw [eP,uq7,show c.length+[d].length=c.length+1 by rfl,bh,h1,h2];unfold fZ;cases eP m c<;>cases bH m c d<;>simp
def lR (m:aL) (n:Nat) (c:lI):Nat:=if eP m c=true then (a6 m n c).length else 0
theorem PO (m:aL) (c:lI) (h:eP m c=true):lR m 0 c=if (bf c c.length:Int)<m.least then 0 else 1:=by rw [lR,if_pos h,a6];split<;>rfl
def jU (m:aL) (n:Nat) (c:lI) (D:Nat):Nat:=((bd D).map λ(d:Nat)=>lR m n (c++[(d:Int)])).sum
theorem nJ (m:aL) (n:Nat) (c:lI) (D:Nat):jU m n c (D+1)=jU m n c D+lR m n (c++[(D:Int)]):=by rw [jU,bm,List.map_append,List.sum_append];simp [jU]
def j3 (m:aL) (n:Nat) (c:lI) (D:Nat):lL:=(bd D).flatMap λ(d:Nat)=>if (bH m c (d:Int)&&fZ m c (d:Int))=true then a6 m n (c++[(d:Int)]) else []
theorem jV (m:aL) (n:Nat) (c:lI) (D:Nat):j3 m n c (D+1)=j3 m n c D++if (bH m c (D:Int)&&fZ m c (D:Int))=true then a6 m n (c++[(D:Int)]) else []:=by rw [j3,bm,List.flatMap_append];simp [j3]
theorem yM (m:aL) (n:Nat) (c:lI) (h:eP m c=true) (D:Nat):(j3 m n c D).length=jU m n c D:=by
 induction D with
 |zero=>rfl
 |succ D ih=>
  rw [jV,nJ,uq7,ih];congr 1;rw [lR,js,h,Bool.true_and];split<;>rfl
theorem PQ (m:aL) (n:Nat) (c:lI) (h:eP m c=true):lR m (n+1) c=jU m n c m.ak.toNat:=by rw [lR,if_pos h,←yM m n c h];rfl
theorem Db (m:aL) (hm:aW m=true) (n:Nat) (c:lI):lR m n c<=8^n:=by
 unfold lR;split
 . exact kh m hm n c
 exact Nat.zero_le _
theorem yN (m:aL) (hm:aW m=true) (n:Nat) (c:lI) (D:Nat):jU m n c D<=D*8^n:=by
 induction D with
 |zero=>simp [jU]
 |succ D ih=>rw [nJ,Nat.succ_mul];exact Nat.add_le_add ih (Db m hm n _)
theorem ra {m:aL} {n:Nat} {c k:lI}:∀{D:Nat},k∈j3 m n c D->∃d:Nat,d<D/\k.take (c.length+1)=c++[(d:Int)]
 |0,h=>by cases h
 |D+1,h=>by
  rw [jV,bj] at h;rcases h with h|h
  . obtain ⟨d,h1,h2⟩:=ra h;exact ⟨d,by omega,h2⟩
  split at h
  . have:=(nI m n _ k h).1;exact ⟨D,by omega,by simpa using this⟩
  cases h
theorem sW (m:aL) (n:Nat) (c:lI) (D:Nat):∀E,∃r,j3 m n c (D+E)=j3 m n c D++r
 |0=>⟨[],by simp⟩
 |E+1=>by obtain ⟨r,h⟩:=sW m n c D E;exact ⟨r++_,by rw [←Nat.add_assoc,jV,h,List.append_assoc]⟩
def cF (m:aL) (key:lI):Nat->Nat
 |0=>0
 |i+1=>cF m key i+jU m (key.length-(i+1)) (key.take i) (key.getD i 0).toNat
theorem yO {key:lI} {i:Nat} (h:i<key.length):key.take (i+1)=key.take i++[key.getD i 0]:=by rw [List.take_add_one];simp [uq4,h]
theorem BZ {m:aL} {key:lI} (h:eP m key=true):∀j,eP m (key.take (key.length-j))=true
 |0=>by simpa using h
 |j+1=>by
  have ih:=BZ h j;by_cases e:j<key.length
  . rw [show key.length-j=key.length-(j+1)+1 by omega,yO (by omega),js] at ih;simp only [uq0] at ih;exact ih.1
  rw [show key.length-(j+1)=key.length-j by omega];exact ih
theorem nK {m:aL} {key:lI} (h:eP m key=true) {i:Nat} (hi:i<=key.length):eP m (key.take i)=true:=by
 have:=BZ h (key.length-i)
 rwa [show key.length-(key.length-i)=i by omega] at this
theorem J0 {m:aL} {key:lI} (h:eP m key=true) (hk:¬(bf key key.length:Int)<m.least) (he:∀x∈key,0<=x/\x<m.ak):∀(n i:Nat),i+n=key.length→
 ∃a b,a6 m n (key.take i)=a++key::b/\key∉a/\a.length+cF m key i=cF m key key.length
 |0,i,hi=>by
  have e:key.take i=key:=by rw [show i=key.length by omega];exact dw
  refine ⟨[],[],?_,List.not_mem_nil,?_⟩
  . rw [e,a6,if_neg hk];rfl
  rw [show i=key.length by omega];simp
 |n+1,i,hi=>by
  have hlt:i<key.length:=by omega
  have hx:=he (key.getD i 0) (by rw [uq4,uq5 hlt];exact uq6 _);have hsn:=yO hlt;have mf:=nK h (show i+1<=key.length by omega);obtain ⟨a',b',h1,h2,h3⟩:=J0 h hk he n (i+1) (by omega);have ed:((key.getD i 0).toNat:Int)=key.getD i 0:=by omega
  have XB:(bH m (key.take i) ((key.getD i 0).toNat:Int)&&fZ m (key.take i) ((key.getD i 0).toNat:Int))=true:=by rw [hsn,js] at mf;simp only [uq0] at mf;rw [ed,mf.2.1,mf.2.2];rfl
  obtain ⟨r,hr⟩:=sW m n (key.take i) ((key.getD i 0).toNat+1) (m.ak.toNat-((key.getD i 0).toNat+1));rw [show (key.getD i 0).toNat+1+(m.ak.toNat-((key.getD i 0).toNat+1))=m.ak.toNat by omega,jV,if_pos XB,ed,←hsn,h1] at hr;refine ⟨j3 m n (key.take i) (key.getD i 0).toNat++a',b'++r,?_,λhm=> ?_,?_⟩
  . show j3 m n (key.take i) m.ak.toNat=_;rw [hr];simp
  . rcases bj.1 hm with hm|hm
    . obtain ⟨d,g1,g2⟩:=ra hm;rw [show (key.take i).length+1=i+1 by simp;omega,hsn] at g2;have:=List.append_cancel_left g2;injection this with this
      omega
    exact h2 hm
  rw [uq7,yM m n _ (nK h (by omega)),←h3,cF,show key.length-(i+1)=n by omega];omega
theorem pV {m:aL} {c:lI} (h:fault m c=0):(c.length:Int)=m.ae/\(∀x∈c,0<=x/\x<m.ak)/\eP m c=true/\¬(bf c c.length:Int)<m.least:=by
 unfold fault at h;split at h
 . cases h
 rename_i h1;split at h
 . cases h
 rename_i h2;split at h
 . cases h
 rename_i h3;split at h
 . cases h
 rename_i h4;split at h
 . cases h
 rename_i h5;refine ⟨by omega,λx hx=> ?_,?_,h5⟩
 . have:=uq1.1 (by simpa using h2) x hx;simp [bx] at this;omega
 unfold eP;rw [uq1];intro i hi;have a3:=uq1.1 (by simpa using h3) i hi;have h4':((bd c.length).all λi=>decide ((aZ c i:Int)<=m.same))=true:=by
  cases hh:((bd c.length).all λi=>decide ((aZ c i:Int)<=m.same)) with
  |true=>rfl
  |false=>exact absurd hh h4
 have a4:=uq1.1 h4' i hi;simp only [a3,a4,Bool.and_self]
theorem Dc {m:aL} {key:lI} (h:fault m key=0):(bA (cq key) 0 (a6 m m.ae.toNat [])).1=cF m key key.length/\cF m key key.length<lR m m.ae.toNat []:=by
 obtain ⟨h1,h2,h3,h4⟩:=pV h;obtain ⟨a,b,g1,g2,g3⟩:=J0 h3 h4 h2 key.length 0 (by omega);rw [show key.length=m.ae.toNat by omega] at g1;have g1':a6 m m.ae.toNat []=a++key::b:=g1;have g3':a.length=cF m key key.length:=by simpa [cF] using g3
 rw [g1',yL a b 0 g2,←g3'];refine ⟨by simp,?_⟩;have h0:eP m []=true:=rfl;rw [lR,if_pos h0,g1'];simp
theorem gv {m:aL} {c:lI} (h:fC m c=true):(c.length:Int)=m.ae/\∀y∈c,0<=y/\y<m.ak:=by obtain ⟨h1,h2,_⟩:=pV (beq_iff_eq.1 h);exact ⟨h1,h2⟩
theorem dJ {m:aL} {t ab:lL} (h:dW m t ab=true):ab.length=t.length/\∀x∈ab,fC m x=true:=by simp only [dW,uq0,beq_iff_eq,uq1] at h;exact h
theorem lS {m:aL} {t:lL} (h:eW m t=true):aW m=true:=by simp only [eW,uq0] at h;exact h.1.1
theorem vz (m:aL) (t ab:lL):(((gS m t ab).length:Int)==0)=(gS m t ab).isEmpty:=by
 cases gS m t ab with
 |nil=>rfl
 |cons x r=>simp;omega
theorem tS {m:aL} {t ab:lL} (h:bg m t ab=true):eW m t=true/\dW m t ab=true:=by simp only [bg,uq0] at h;exact h.1
theorem Mo (m:aL) (t ab:lL) (h:t.length<=1048576) (h2:∀x∈t,x.length<=1048576) (h3:ab.length<=1048576) (h4:∀x∈ab,x.length<=1048576) (hs:eW m t=true):Fn pG 190 [jQ m t,aQ ab] true (· =eB (dW m t ab)):=by
 have hn:=iW hs;have hq:=BP m ab (lS hs) h3 h4;have hlen:((ab.length:Int)==(t.length:Int))=(ab.length==t.length):=by rw [Bool.eq_iff_iff];simp only [beq_iff_eq];omega
 refine Fn.av 17 [.tmp 4] func190 (hv:= ?_);unfold dW;rcases hl:(ab.length==t.length) with _|_
 . simp -dsimp -implicitDefEqProofs only [go_sem,hlen,hl]
 have he:=beq_iff_eq.1 hl;rw [decide_eq_true (show _ by omega),Bool.and_true] at hq;simp -dsimp -implicitDefEqProofs only [go_sem,hlen,hl];refine aa hq ?_;simp -dsimp -implicitDefEqProofs only [go_sem]
theorem tT (m:aL) (t ab:lL) (h:t.length<=1048576) (h2:∀x∈t,x.length<=1048576) (h3:ab.length<=1048576) (h4:∀x∈ab,x.length<=1048576):Fn pG 139 [jQ m t,aQ ab] true (· =eI (bT m t ab)):=by
 refine Fn.av 12 [.tmp 4] func139 (hv:= ?_);have hq:=vu m t h h2;unfold bT;rcases hb:eW m t with _|_
 . rw [hb] at hq;simp -dsimp -implicitDefEqProofs only [go_sem];refine aa hq ?_;simp -dsimp -implicitDefEqProofs only [go_sem]
 have hr:=Mo m t ab h h2 h3 h4 hb;rw [hb] at hq;simp -dsimp -implicitDefEqProofs only [go_sem];refine aa hq ?_;simp -dsimp -implicitDefEqProofs only [go_sem];refine aa hr ?_;cases dW m t ab<;>simp -dsimp -implicitDefEqProofs only [go_sem];all_goals ((with_reducible and_intros);all_goals try first|omega|(refine ⟨?_,?_⟩<;>omega)|exact rfl)
theorem FR (m:aL) (t ab:lL) (h:t.length<=1048576) (h2:∀x∈t,x.length<=1048576) (h3:ab.length<=1048576) (h4:∀x∈ab,x.length<=1048576):Fn pG 192 [jQ m t,aQ ab] true (· =eB (bg m t ab)):=by
 refine Fn.av 16 [.tmp 4] func192 (hv:= ?_);have hq:=tT m t ab h h2 h3 h4;have hf0:=vz m t ab;rcases hb:(eW m t&&dW m t ab) with _|_
 . have hc:(bT m t ab==0)=false:=by
    unfold bT;cases h1:eW m t<;>cases h2:dW m t ab<;>simp_all
   unfold bg;rw [hb];generalize bT m t ab=c at*;simp -dsimp -implicitDefEqProofs only [go_sem];refine aa hq ?_;simp -dsimp -implicitDefEqProofs only [go_sem,hc]
 obtain ⟨h5,h6⟩:=Bool.and_eq_true_iff.1 hb;have hn:=iW h5;obtain ⟨h7,h8⟩:=dJ h6;have hr:=q_ m t ab (lS h5) (by omega) (by omega) (by omega) (λi hi=>hn.2.2.2.2 i hi) (by omega) (λx hx=>(gv (h8 x hx)).1);have hc:bT m t ab=0:=by rw [bT,h5,h6];rfl
 rw [hc] at hq;unfold bg;rw [hb];generalize gS m t ab=F at*;simp -dsimp -implicitDefEqProofs only [go_sem];refine aa hq ?_;simp -dsimp -implicitDefEqProofs only [go_sem];refine au (hr) (by simp [ax,ao,aq,aF]) ?_;simp -dsimp -implicitDefEqProofs only [go_sem,hf0]
theorem pW (m:aL) (t ab:lL) (h:t.length<=1048576) (h2:∀x∈t,x.length<=1048576) (h3:ab.length<=1048576) (h4:∀x∈ab,x.length<=1048576):Fn pG 141 [jQ m t,aQ ab] true (· =eI (if bg m t ab then 0 else 1)):=by refine Fn.av 9 [.tmp 4] func141 (hv:= ?_);have hq:=FR m t ab h h2 h3 h4;simp -dsimp -implicitDefEqProofs only [go_sem];refine aa hq ?_;cases bg m t ab<;>simp -dsimp -implicitDefEqProofs only [go_sem];all_goals ((with_reducible and_intros);all_goals try first|omega|(refine ⟨?_,?_⟩<;>omega)|exact rfl)
theorem rb (m:aL) (t ab:lL) (h:t.length<=1048576) (h2:∀x∈t,x.length<=1048576) (h3:ab.length<=1048576) (h4:∀x∈ab,x.length<=1048576):Fn pG 161 [jQ m t,aQ ab] true (· =eI (bT m t ab)):=by
 refine Fn.av 21 [.tmp 4] func161 (hv:= ?_);have hq:=vt m t h h2;unfold bT;rcases hb:eW m t with _|_
 . rw [hb] at hq;simp -dsimp -implicitDefEqProofs only [go_sem];refine aa hq ?_;simp -dsimp -implicitDefEqProofs only [go_sem]
 have hr:=tQ m ab (lS hb) h3 h4;rw [hb] at hq;have hlen:((ab.length:Int) != (t.length:Int))= !(ab.length==t.length):=by rw [Bool.eq_iff_iff];simp only [bne_iff_ne,Bool.not_eq_true',beq_eq_false_iff_ne];omega
 unfold dW;rcases hl:(ab.length==t.length) with _|_
 . simp -dsimp -implicitDefEqProofs only [go_sem];refine aa hq ?_;simp -dsimp -implicitDefEqProofs only [go_sem,hlen,hl,Bool.not_false]
 simp -dsimp -implicitDefEqProofs only [go_sem];refine aa hq ?_;simp -dsimp -implicitDefEqProofs only [go_sem,hlen,hl,Bool.not_true];refine aa hr ?_;cases ab.all (fC m)<;>simp -dsimp -implicitDefEqProofs only [go_sem]
theorem FT (m:aL) (t ab:lL) (h:t.length<=1048576) (h2:∀x∈t,x.length<=1048576) (h3:ab.length<=1048576) (h4:∀x∈ab,x.length<=1048576):Fn pG 220 [jQ m t,aQ ab] true (· =eB (bg m t ab)):=by
 refine Fn.av 16 [.tmp 4] func220 (hv:= ?_);have hq:=rb m t ab h h2 h3 h4;have hf0:=vz m t ab;rcases hb:(eW m t&&dW m t ab) with _|_
 . have hc:(bT m t ab==0)=false:=by
    unfold bT;cases h1:eW m t<;>cases h2:dW m t ab<;>simp_all
   unfold bg;rw [hb];generalize bT m t ab=c at*;simp -dsimp -implicitDefEqProofs only [go_sem];refine aa hq ?_;simp -dsimp -implicitDefEqProofs only [go_sem,hc]
 obtain ⟨h5,h6⟩:=Bool.and_eq_true_iff.1 hb;have hn:=iW h5;obtain ⟨h7,h8⟩:=dJ h6;have hr:=nH m t ab (lS h5) (by omega) (by omega) (by omega) (λi hi=>hn.2.2.2.2 i hi) (by omega) (λx hx=>gv (h8 x hx));have hc:bT m t ab=0:=by rw [bT,h5,h6];rfl
 rw [hc] at hq;unfold bg;rw [hb];generalize gS m t ab=F at*;simp -dsimp -implicitDefEqProofs only [go_sem];refine aa hq ?_;simp -dsimp -implicitDefEqProofs only [go_sem];refine au (hr) (by simp [ax,ao,aq,aF]) ?_;simp -dsimp -implicitDefEqProofs only [go_sem,hf0]
theorem ki (m:aL) (t ab:lL) (h:t.length<=1048576) (h2:∀x∈t,x.length<=1048576) (h3:ab.length<=1048576) (h4:∀x∈ab,x.length<=1048576):Fn pG 168 [jQ m t,aQ ab] true (· =eI (if bg m t ab then 0 else 1)):=by refine Fn.av 9 [.tmp 4] func168 (hv:= ?_);have hq:=FT m t ab h h2 h3 h4;simp -dsimp -implicitDefEqProofs only [go_sem];refine aa hq ?_;cases bg m t ab<;>simp -dsimp -implicitDefEqProofs only [go_sem];all_goals ((with_reducible and_intros);all_goals try first|omega|(refine ⟨?_,?_⟩<;>omega)|exact rfl)
def kX (set:lI):Nat->lI
 |0=>[set.getD 0 0]
 |i+1=>kX set i++[set.getD (i+1) 0-set.getD i 0]
theorem re (set:lI):kX set 0=[set.getD 0 0]:=rfl
theorem nL (set:lI) (i:Nat):kX set (i+1)=kX set i++[set.getD (i+1) 0-set.getD i 0]:=rfl
theorem kB (set:lI):∀i,(kX set i).length=i+1
 |0=>rfl
 |i+1=>by rw [nL,uq7,kB set i];rfl
def vA (m:aL) (set:lI):lI:=kX set (set.length-1)++[m.ak-1-set.getD (set.length-1) 0]
theorem SU {m:aL} {set:lI} (h:0<set.length):(vA m set).length=set.length+1:=by rw [vA,uq7,kB];simp;omega
theorem fM {xs:lI} {n:Int} (h:lQ xs n=true) {i:Nat} (hi:i<xs.length):0<=xs.getD i 0/\xs.getD i 0<n/\(0<i->xs.getD (i-1) 0<xs.getD i 0):=by unfold lQ at h;rw [uq1] at h;have:=h i (b6.2 hi);simp only [eV,uq0,Bool.or_eq_true,decide_eq_true_eq,beq_iff_eq] at this;exact ⟨this.1.1,this.1.2,λh0=>this.2.resolve_left (by omega)⟩
theorem FU {m:aL} {set:lI} (h:lQ set m.ak=true):∀i,i<set.length->∀x∈kX set i,0<=x/\x<m.ak
 |0,hi,x,hx=>by
  have:=fM h hi;simp only [re,bI] at hx;subst hx;omega
 |i+1,hi,x,hx=>by
  rw [nL] at hx;rcases bj.1 hx with hx|hx
  . exact FU h i (by omega) x hx
  simp only [bI] at hx;subst hx;have h1:=fM h hi;have h2:=fM h (show i<set.length by omega);have:=h1.2.2 (by omega);simp only [Nat.add_sub_cancel] at this;omega
theorem Iz {m:aL} {set:lI} (h:cJ m set=true):0<set.length/\∀x∈vA m set,0<=x/\x<m.ak:=by
 simp only [cJ,uq0,decide_eq_true_eq] at h;have h0:0<set.length:=by omega
 refine ⟨h0,λx hx=> ?_⟩;rcases bj.1 hx with hx|hx
 . exact FU h.2 _ (by omega) x hx
 simp only [bI] at hx;have:=fM h.2 (show set.length-1<set.length by omega);subst hx;omega
structure Zx where
 b:lI
 w:lI
 d:lI
def pins (m:aL) (l:lL):lL:=l.map (vA m)
theorem IA (m:aL) (set:lI) (hm:aW m=true) (hs:cJ m set=true) (h:set.length<=1048576):Fn pG 197 [ky m,aP set] true (· =aP (vA m set)):=by
 refine Fn.av 43 [.tmp 4] func197 (hv:= ?_);have ⟨⟨n1,n2⟩,n3,n4⟩:=aI hm;obtain ⟨h0,hin⟩:=Iz hs;have hr:lQ set m.ak=true:=by simp only [cJ,uq0] at hs;exact hs.2
 have g0:=get_some h0;have hg0:set.getD 0 0=set[0]:=by simp [uq4,h0]
 simp -dsimp -implicitDefEqProofs only [go_sem,g0];refine ⟨by omega,?_⟩;refine aj.up [1,2] [13,28,29] [10] (set.length-1) (λ_=>True) (λj=>[(6,eI (1+(j:Int))),(5,.ref 10 0 0 (kX set j).length)]) (λj=>[(10,.row 0 ⟨1,false⟩ true ((kX set j).map eI))]) trivial ?_ rfl (λj hj _=> ?_) (λ_=> ?_)
 . simp -dsimp -implicitDefEqProofs only [go_sem,re,hg0];all_goals try exact rfl
 . have hlen:=kB set j;have h1:j<set.length:=(by omega);have h2:j+1<set.length:=(by omega);have a1:=fM hr h1;have a2:=fM hr h2;have e1:set.getD j 0=set[j]:=(by simp [uq4,h1]);have e2:set.getD (j+1) 0=set[j+1]:=(by simp [uq4,h2]);have g1:set[(1+(j:Int)-1).toNat]? =some set[j]:=(by rw [show (1+(j:Int)-1).toNat=j by omega];exact get_some h1);have g2:set[(1+(j:Int)).toNat]? =some set[j+1]:=(by rw [show (1+(j:Int)).toNat=j+1 by omega];exact get_some h2);have hlt:decide (1+(j:Int)<(set.length:Int))=true:=dT (by omega);rw [nL,e1,e2];rw [e1] at a1;rw [e2] at a2;generalize kX set j=F at*;generalize set[j]=x at*;generalize set[j+1]=y at*;have htk:=aY eI F F.length (bt _);simp -dsimp -implicitDefEqProofs only [go_sem,hlt];refine aj.draw mixed rfl ?_;simp -dsimp -implicitDefEqProofs only [go_sem,g1,g2,htk];((with_reducible and_intros);all_goals try first|omega|(refine ⟨?_,?_⟩<;>omega)|exact rfl);all_goals first|(simp;done)|skip
 have hlen:=kB set (set.length-1);have h1:set.length-1<set.length:=by omega
 have a1:=fM hr h1;have e1:set.getD (set.length-1) 0=set[set.length-1]:=by simp [uq4,h1]
 have g1:set[((set.length:Int)-1).toNat]? =some set[set.length-1]:=by rw [show ((set.length:Int)-1).toNat=set.length-1 by omega];exact get_some h1
 have hlt:decide (1+((set.length-1:Nat):Int)<(set.length:Int))=false:=dF (by omega);unfold vA;rw [e1];rw [e1] at a1;generalize kX set (set.length-1)=F at*;generalize set[set.length-1]=x at*;have htk:=aY eI F F.length (bt _);have QR:∀z,cP (F.length+1) (uq8 eI F++[eI z])=uq8 eI F++[eI z]:=λz=>cQ (by simp);simp -dsimp -implicitDefEqProofs only [go_sem,hlt];refine aj.draw mixed rfl ?_;simp -dsimp -implicitDefEqProofs only [go_sem,g1,htk,QR];((with_reducible and_intros);all_goals try first|omega|(refine ⟨?_,?_⟩<;>omega)|exact rfl);all_goals first|(simp;done)|skip
theorem Mp (m:aL) (set:lI) (hm:aW m=true) (hs:cJ m set=true) (h:set.length<=1048576):Fn pG 216 [ky m,aP set] true (· =aP (vA m set)):=by
 refine Fn.av 43 [.tmp 4] func216 (hv:= ?_);have ⟨⟨n1,n2⟩,n3,n4⟩:=aI hm;obtain ⟨h0,hin⟩:=Iz hs;have hr:lQ set m.ak=true:=by simp only [cJ,uq0] at hs;exact hs.2
 have g0:=get_some h0;have hg0:set.getD 0 0=set[0]:=by simp [uq4,h0]
 simp -dsimp -implicitDefEqProofs only [go_sem,g0];refine ⟨by omega,?_⟩;refine aj.up [1,2] [13,28,29] [10] (set.length-1) (λ_=>True) (λj=>[(6,eI (1+(j:Int))),(5,.ref 10 0 0 (kX set j).length)]) (λj=>[(10,.row 0 ⟨1,false⟩ true ((kX set j).map eI))]) trivial ?_ rfl (λj hj _=> ?_) (λ_=> ?_)
 . simp -dsimp -implicitDefEqProofs only [go_sem,re,hg0];all_goals try exact rfl
 . have hlen:=kB set j;have h1:j<set.length:=(by omega);have h2:j+1<set.length:=(by omega);have a1:=fM hr h1;have a2:=fM hr h2;have e1:set.getD j 0=set[j]:=(by simp [uq4,h1]);have e2:set.getD (j+1) 0=set[j+1]:=(by simp [uq4,h2]);have g1:set[(1+(j:Int)-1).toNat]? =some set[j]:=(by rw [show (1+(j:Int)-1).toNat=j by omega];exact get_some h1);have g2:set[(1+(j:Int)).toNat]? =some set[j+1]:=(by rw [show (1+(j:Int)).toNat=j+1 by omega];exact get_some h2);have hlt:decide (1+(j:Int)<(set.length:Int))=true:=dT (by omega);rw [nL,e1,e2];rw [e1] at a1;rw [e2] at a2;generalize kX set j=F at*;generalize set[j]=x at*;generalize set[j+1]=y at*;have htk:=aY eI F F.length (bt _);simp -dsimp -implicitDefEqProofs only [go_sem,hlt];refine aj.draw mixed rfl ?_;simp -dsimp -implicitDefEqProofs only [go_sem,g1,g2,htk];((with_reducible and_intros);all_goals try first|omega|(refine ⟨?_,?_⟩<;>omega)|exact rfl);all_goals first|(simp;done)|skip
 have hlen:=kB set (set.length-1);have h1:set.length-1<set.length:=by omega
 have a1:=fM hr h1;have e1:set.getD (set.length-1) 0=set[set.length-1]:=by simp [uq4,h1]
 have g1:set[((set.length:Int)-1).toNat]? =some set[set.length-1]:=by rw [show ((set.length:Int)-1).toNat=set.length-1 by omega];exact get_some h1
 have hlt:decide (1+((set.length-1:Nat):Int)<(set.length:Int))=false:=dF (by omega);unfold vA;rw [e1];rw [e1] at a1;generalize kX set (set.length-1)=F at*;generalize set[set.length-1]=x at*;have htk:=aY eI F F.length (bt _);have QR:∀z,cP (F.length+1) (uq8 eI F++[eI z])=uq8 eI F++[eI z]:=λz=>cQ (by simp);simp -dsimp -implicitDefEqProofs only [go_sem,hlt];refine aj.draw mixed rfl ?_;simp -dsimp -implicitDefEqProofs only [go_sem,g1,htk,QR];((with_reducible and_intros);all_goals try first|omega|(refine ⟨?_,?_⟩<;>omega)|exact rfl);all_goals first|(simp;done)|skip
theorem Mq (m:aL) (l:lL) (hm:aW m=true) (hl:fu m l=true) (h2:∀x∈l,x.length<=1048576):Fn pG 148 [ky m,sM l] false (· =aQ (pins m l)):=by
 have ⟨⟨n1,n2⟩,n3,n4⟩:=aI hm;simp only [fu,uq0,uq1,beq_iff_eq] at hl;obtain ⟨hl1,hl2⟩:=hl;refine Fn.bY 26 [.tmp 4] func148 (hv:= ?_);simp -dsimp -implicitDefEqProofs only [go_sem];refine aj.up [2,3] [11,22,23,24] [7] l.length (λ_=>True) (λi=>[(6,eI i),(5,.ref 7 0 0 i)]) (λi=>[(7,.row 0 ⟨1,false⟩ (i==0) (((l.take i).map (vA m)).map aP))]) trivial ?_ rfl (λi hi _=> ?_) (λ_=> ?_)
 . simp -dsimp -implicitDefEqProofs only [go_sem,db,List.map_nil]
 . have gi:=get_some hi;have li:=aE hi;have hq:=IA m l[i] hm (hl2 _ (uq6 hi)) (h2 _ (uq6 hi));have ht:(l.take (i+1)).map (vA m)=(l.take i).map (vA m)++[vA m l[i]]:=(by rw [fq hi,List.map_append];rfl);have hln:((l.take i).map (vA m)).length=i:=(by simp;omega);rw [ht];generalize (l.take i).map (vA m)=F at*;generalize vA m l[i]=s at*;generalize l[i]=x at*;have htk:=aY aP F i (by omega);have e0:(i+1==0)=false:=rfl;have e2:uq8 aP (F++[s])=uq8 aP F++[aP s]:=(by simp);simp -dsimp -implicitDefEqProofs only [go_sem,li];refine aj.draw mixed rfl ?_;simp -dsimp -implicitDefEqProofs only [go_sem,gi];((with_reducible and_intros);all_goals try omega);refine an hq ?_;simp -dsimp -implicitDefEqProofs only [go_sem];refine .inr ⟨by omega,by omega,(by cases i with|zero=>exact .inr rfl|succ i=>exact .inl rfl),by exact rfl,⟨by omega,by omega⟩,rfl,?_⟩;rw [e0,e2];simp -dsimp -implicitDefEqProofs only [go_sem,htk]
 rw [dw];unfold pins;have hln:(l.map (vA m)).length=l.length:=by simp
 generalize l.map (vA m)=F at*;have htk:=aY aP F l.length (by omega);simp -dsimp -implicitDefEqProofs only [go_sem,ay];((with_reducible and_intros);all_goals try omega);all_goals rw [htk]
theorem PS (m:aL) (l:lL) (hm:aW m=true) (hl:fu m l=true) (h2:∀x∈l,x.length<=1048576):Fn pG 164 [ky m,sM l] false (· =aQ (pins m l)):=by
 have ⟨⟨n1,n2⟩,n3,n4⟩:=aI hm;simp only [fu,uq0,uq1,beq_iff_eq] at hl;obtain ⟨hl1,hl2⟩:=hl;refine Fn.bY 24 [.tmp 4] func164 (hv:= ?_);simp -dsimp -implicitDefEqProofs only [go_sem];refine aj.up [2,10,11] [19,20,21] [8] l.length (λ_=>True) (λi=>[(12,eI i),(5,.ref 8 0 0 i)]) (λi=>[(8,.row 0 ⟨1,false⟩ (i==0) (((l.take i).map (vA m)).map aP))]) trivial ?_ rfl (λi hi _=> ?_) (λ_=> ?_)
 . simp -dsimp -implicitDefEqProofs only [go_sem,db,List.map_nil]
 . have gi:=get_some hi;have li:=aE hi;have hq:=Mp m l[i] hm (hl2 _ (uq6 hi)) (h2 _ (uq6 hi));have ht:(l.take (i+1)).map (vA m)=(l.take i).map (vA m)++[vA m l[i]]:=(by rw [fq hi,List.map_append];rfl);have hln:((l.take i).map (vA m)).length=i:=(by simp;omega);rw [ht];generalize (l.take i).map (vA m)=F at*;generalize vA m l[i]=s at*;generalize l[i]=x at*;have htk:=aY aP F i (by omega);have e0:(i+1==0)=false:=rfl;have e2:uq8 aP (F++[s])=uq8 aP F++[aP s]:=(by simp);simp -dsimp -implicitDefEqProofs only [go_sem,li,gi];((with_reducible and_intros);all_goals try omega);refine aa hq ?_;simp -dsimp -implicitDefEqProofs only [go_sem];refine .inr ⟨by omega,by omega,(by cases i with|zero=>exact .inr rfl|succ i=>exact .inl rfl),⟨by omega,by omega⟩,rfl,?_⟩;rw [e0,e2];simp -dsimp -implicitDefEqProofs only [go_sem,htk]
 rw [dw];unfold pins;have hln:(l.map (vA m)).length=l.length:=by simp
 generalize l.map (vA m)=F at*;have htk:=aY aP F l.length (by omega);simp -dsimp -implicitDefEqProofs only [go_sem,ay];((with_reducible and_intros);all_goals try omega);all_goals rw [htk]
def bu (m:aL):lL:=a6 m m.ae.toNat []
theorem PT (m:aL):lR m m.ae.toNat []=(bu m).length:=by rw [lR,if_pos (show eP m []=true from rfl)];rfl
structure qy (m:aL) (k:lI):Prop where
 len:(k.length:Int)=m.ae
 ok:eP m k=true
 kinds:¬(bf k k.length:Int)<m.least
 el:∀x∈k,0<=x/\x<m.ak
theorem vB {m:aL}:∀(n:Nat) (c k:lI),eP m c=true->(∀x∈c,0<=x/\x<m.ak)->k∈a6 m n c->k.length=c.length+n/\eP m k=true/\¬(bf k k.length:Int)<m.least/\∀x∈k,0<=x/\x<m.ak
 |0,c,k,h1,h2,h=>by
  simp only [a6] at h;split at h
  . cases h
  rename_i hk;rw [bI] at h;subst h;exact ⟨rfl,h1,hk,h2⟩
 |n+1,c,k,h1,h2,h=>by
  simp only [a6,List.mem_flatMap,b6] at h;obtain ⟨d,hd,h⟩:=h;split at h
  . rename_i hc
    obtain ⟨g1,g2⟩:=vB n (c++[(d:Int)]) k (by rw [js,h1,Bool.true_and];exact hc) (λx hx=>by
     rcases bj.1 hx with h|h
     . exact h2 x h
     simp at h;omega) h
    exact ⟨by rw [g1];simp;omega,g2⟩
  cases h
theorem kj {m:aL} (hm:0<=m.ae) {k:lI} (h:k∈bu m):qy m k:=by obtain ⟨h1,h2,h3,h4⟩:=vB m.ae.toNat [] k rfl (λx hx=>by cases hx) h;exact ⟨by rw [h1];simp;omega,h2,h3,h4⟩
theorem qy.PU {m:aL} {k:lI} (h:fault m k=0):qy m k:=by obtain ⟨h1,h2,h3,h4⟩:=pV h;exact ⟨h1,h3,h4,h2⟩
theorem qy.fault {m:aL} {k:lI} (h:qy m k):fault m k=0:=by
 obtain ⟨h1,h2,h3,h4⟩:=h;unfold Go.Vc.fault;rw [if_neg (by omega)];have e2:(k.all λx=>bx x 0 (m.ak-1))=true:=by rw [uq1];intro x hx;have:=h4 x hx;simp [bx];omega
 unfold eP at h2;rw [uq1] at h2;have e3:((bd k.length).all λi=>cw m k i)=true:=by rw [uq1];intro i hi;have:=h2 i hi;simp only [uq0] at this;exact this.2
 have e4:((bd k.length).all λi=>decide ((aZ k i:Int)<=m.same))=true:=by rw [uq1];intro i hi;have:=h2 i hi;simp only [uq0] at this;exact this.1
 simp [e2,e3,e4,h3]
theorem o_ {m:aL}:∀(n:Nat) (c:lI),(a6 m n c).Nodup
 |0,c=>by
  simp only [a6];split
  . exact List.nodup_nil
  simp
 |n+1,c=>by
  show (j3 m n c m.ak.toNat).Nodup;have key:∀D,(j3 m n c D).Nodup:=by
   intro D;induction D with
   |zero=>exact List.nodup_nil
   |succ D ih=>
    rw [jV,List.nodup_append];refine ⟨ih,?_,λa ha b hb=> ?_⟩
    . split
      . exact o_ n _
      exact List.nodup_nil
    rintro rfl;obtain ⟨d,hd,g⟩:=ra ha;split at hb
    . have g2:=(nI m n _ a hb).1;have e:(c++[(D:Int)]).length=c.length+1:=(by simp);rw [e,g] at g2;have:=List.append_cancel_left g2;injection this with this _
      omega
    cases hb
  exact key _
def FV (m:aL) (c:lI) (i:Nat):Bool:=decide ((aZ c i:Int)<=m.same)&&cw m c i
theorem lT (m:aL) (c:lI) (hm:aW m=true) (h:c.length<=6) (hel:∀x∈c,0<=x/\x<=7):Fn pG 127 [ky m,aP c] true (· =eB (eP m c)):=by
 refine Fn.av 53 [.tmp 4] func127 (hv:= ?_);have hF:eP m c=(bd c.length).all (FV m c):=rfl;simp -dsimp -implicitDefEqProofs only [go_sem];refine aj.up [1,2] [9,47] [] c.length (λi=>(bd i).all (FV m c)=true) (λi=>[(6,eI i),(5,eI (dA c i))]) (λ_=>[]) (by simp) ?_ rfl (λi hi hI=> ?_) (λhI=> ?_)
 . rw [show dA c 0=0 from rfl];simp -dsimp -implicitDefEqProofs only [go_sem]
 . have no:FV m c i=false->eP m c=false:=λh=>by rw [hF];exact b7 hi h
   have yes:FV m c i=true->(bd (i+1)).all (FV m c)=true:=λh=>by rw [bh,hI,h];rfl
   have hrb:dA c i<=i/\dA c (i+1)<=i+1:=by
    refine ⟨?_,(iq c i).2.1⟩;rw [dA];split
    . omega
    have:=(iq c (i-1)).2.1;omega
   have e1:=hel c[i] (uq6 hi);have gi:=get_some hi;have li:=aE hi;have hok:FV m c i=(decide (((dA c (i+1):Nat):Int)<=m.same)&&cw m c i):=rfl;clear hF hI;by_cases hi0:0<i
   rotate_left
   . have g3:decide ((i:Int)>0)=false:=(by simp;omega);have hR:dA c i=0/\dA c (i+1)=1:=by
      have e0:i=0:=(by omega);subst e0;exact ⟨rfl,by show aZ c 0=1;unfold aZ;rfl⟩
     have hs:FV m c i=true:=by have e0:i=0:=(by omega);have:=mR hm;rw [hok,hR.2];subst e0;have:decide (((1:Nat):Int)<=m.same)=true:=dT (by omega);rw [this];rfl
     have ja:decide ((1:Int)>m.same)=false:=dF (by have:=mR hm;omega);rw [hR.1,hR.2];clear hR hrb no;have yes:=yes hs;simp -dsimp -implicitDefEqProofs only [go_sem,li]
     repeat' first
      |(refine Br.intro (λ_=> ?_) (λ_=> ?_)<;>try simp -dsimp -implicitDefEqProofs only [go_sem, *])
      |(with_reducible refine ai ?_ ?_)
      |(refine aj.draw mixed rfl ?_;try simp -dsimp -implicitDefEqProofs only [go_sem,g3])
     all_goals (first|(refine ⟨?_,?_⟩<;>omega)|(simp;done)|rfl|(simp_all;done)|(simp_all;omega)|skip)
   have hi':i-1<c.length:=(by omega);have e2:=hel c[i-1] (uq6 hi');have g2:c[((i:Int)-1).toNat]? =some c[i-1]:=(by rw [pred_toNat hi0];exact get_some hi');have g3:decide ((i:Int)>0)=true:=(by simp;omega);have hs:cw m c i= !decide (fj (c[i]-c[i-1])>m.step):=by
    rw [cw,show (i==0)=false by simp;omega];have q1:c.getD i 0=c[i]:=(by simp [uq4,hi]);have q2:c.getD (i-1) 0=c[i-1]:=(by simp [uq4,hi']);rw [q1,q2,Bool.false_or];by_cases hq:fj (c[i]-c[i-1])<=m.step
    . rw [decide_eq_true hq,decide_eq_false (by omega)];rfl
    rw [decide_eq_false hq,decide_eq_true (by omega)];rfl
   have hR:((dA c (i+1):Nat):Int)=if (c[i]==c[i-1])=true then (dA c i:Int)+1 else 0+1:=by
    obtain ⟨j,rfl⟩:∃j,i=j+1:=⟨i-1,by omega⟩;rw [show dA c (j+1+1)=aZ c (j+1) from rfl,show dA c (j+1)=aZ c j from rfl,aZ];simp only [Nat.add_sub_cancel];have q1:c.getD (j+1) 0=c[j+1]:=(by simp [uq4,hi]);have q2:c.getD j 0=c[j]:=(by simp [uq4,show j<c.length by omega]);rw [q1,q2];by_cases hq:c[j+1]=c[j]
    . rw [if_pos hq,if_pos (by simpa using hq)];simp
    rw [if_neg hq,if_neg (by simpa using hq)];simp
   have rE:FV m c i=(!decide (((dA c (i+1):Nat):Int)>m.same)&& !decide (fj (c[i]-c[i-1])>m.step)):=by
    rw [hok,hs];congr 1;by_cases hq:((dA c (i+1):Nat):Int)<=m.same
    . rw [decide_eq_true hq,decide_eq_false (by omega)];rfl
    rw [decide_eq_false hq,decide_eq_true (by omega)];rfl
   clear hok hs;rw [rE] at no yes;clear rE;have qc:=FP (c[i]-c[i-1]) (by omega);rcases hq1:(c[i]==c[i-1]) with _|_
   all_goals
    rw [hq1] at hR;simp only [if_true,Bool.false_eq_true,if_false] at hR;have hne:(c[i] != c[i-1])= !(c[i]==c[i-1]):=rfl;rw [hq1] at hne;rw [hR] at no yes;rcases hq2:decide (fj (c[i]-c[i-1])>m.step) with _|_
   all_goals
    first
     |(rcases hq3:decide ((dA c i:Int)+1>m.same) with _|_)
     |skip
   all_goals
    generalize dA c i=R at*;generalize dA c (i+1)=R' at*;simp -dsimp -implicitDefEqProofs only [pz,cm,ft,e7,↓reduceIte,eX];try rw [hR]
    simp -dsimp -implicitDefEqProofs only [go_sem,li]
    repeat' first
     |(refine Br.intro (λ_=> ?_) (λ_=> ?_)<;>try simp -dsimp -implicitDefEqProofs only [go_sem, *])
     |(with_reducible refine ai ?_ ?_)
     |(refine aj.draw mixed rfl ?_;try simp -dsimp -implicitDefEqProofs only [go_sem,gi,g2,g3])
     |(refine an (qc) ?_;try simp -dsimp -implicitDefEqProofs only [go_sem, *])
    all_goals first
     |(rw [no (by simp_all)];done)
     |(rw [←bm];exact yes (by simp_all))
     |(first|omega|(refine ⟨?_,?_⟩<;>omega)|(simp;done)|rfl|(simp_all;done)|skip)
 rw [←hF] at hI;rw [hI];simp -dsimp -implicitDefEqProofs only [go_sem,ay]
theorem FW (xs ys:lI) (h:xs.length<=9223372036854775807):Fn pG 227 [aP xs,aP ys] true (· =eB (decide (xs=ys))):=by
 refine Fn.av 26 [.tmp 4] func227 (hv:= ?_);simp -dsimp -implicitDefEqProofs only [go_sem];repeat' (refine Br.intro (λ_=> ?_) (λ_=> ?_)<;>try simp -dsimp -implicitDefEqProofs only [go_sem, *])
 . rw [decide_eq_false];intro e;subst e;simp_all
 have h1:xs.length=ys.length:=by simp_all<;>omega
 refine aj.up [0,1,12] [] [] xs.length (λi=>xs.take i=ys.take i) (λi=>[(13,eI i)]) (λ_=>[]) rfl ?_ rfl (λi hi hI=> ?_) (λhI=> ?_)
 . simp -dsimp -implicitDefEqProofs only [go_sem]
 . simp -dsimp -implicitDefEqProofs only [pz,↓reduceIte,eX];have hy:i<ys.length:=(by omega);have no:xs[i]≠ys[i]->decide (xs=ys)=false:=T4 hi hy;have yes:xs[i]=ys[i]->xs.take (i+1)=ys.take (i+1):=Pz hi hy hI;simp -dsimp -implicitDefEqProofs only [go_sem,aE hi];refine aj.draw mixed rfl ?_;simp -dsimp -implicitDefEqProofs only [go_sem,get_some hi,get_some hy]
   repeat' first
    |(refine Br.intro (λ_=> ?_) (λ_=> ?_)<;>try simp -dsimp -implicitDefEqProofs only [go_sem, *])
    |(with_reducible refine ai ?_ ?_)
    |fail
   all_goals first
    |omega
    |(refine ⟨?_,?_⟩<;>omega)
    |rfl
    |(rw [no];clear no yes;simp_all;done)
    |(refine yes ?_;clear no yes;simp_all;done)
 simp -dsimp -implicitDefEqProofs only [go_sem,ay];have h3:xs=ys:=by rw [←dw (l:=xs),hI,h1,dw]
 simp [h3]
theorem WY (c:lI) (af:Nat) (ys:lA) (s:Int) (hc:c.length<=6) (hy:ys.take c.length=c.map eI) (hs:0<=s/\s<=1000000):
 fL pG 228 [(1700000010,.row af ⟨1,false⟩ true ys),(1500000005,.box 0 [eI s])] [.ref 1700000010 af 0 c.length,.ptr 1500000005 0 0 0]
  (λr m'=>r=eB (fH s c).2/\m'=[(1700000010,.row af ⟨1,false⟩ true ys),(1500000005,.box 0 [eI (fH s c).1])]):=by
 refine fL.cW 6 [.tmp 3] func228 (hv:= ?_);simp -dsimp -implicitDefEqProofs only [go_sem];refine ⟨⟨by omega,by omega⟩,_,⟨rfl,rfl⟩,aM ?_ ?_⟩
 . simp -dsimp -implicitDefEqProofs only [go_sem,fH]
 simp -dsimp -implicitDefEqProofs only [go_sem];simp
theorem WZ (m:aL) (hm:aW m=true):∀(n:Nat) (c:lI) (t:KS Int),(c.length:Int)+n=m.ae->(∀x∈c,0<=x/\x<=7)->DN c t->(0<=t.s/\t.s+8^n<=1000000)→
 fL pG 262 [(1700000008,.box 0 [.ref 1700000010 t.af 0 c.length]),(1700000010,.row t.af ⟨1,false⟩ true (t.zs.map eI)),(1700000004,.box 0 [eI m.ae,eI m.ak,eI m.step,eI m.same,eI m.least]),(1700000007,.box 0 [.cn 228 [.ptr 1500000005 0 0 0]]),(1700000005,.box 0 [.val (.slice none 0 0)]),(1700000006,.box 0 [.val .nilFunc]),(1700000009,.box 0 [.cn 262 [.ptr 1700000008 0 0 0,.ptr 1700000004 0 0 0,.ptr 1700000007 0 0 0,.ptr 1700000005 0 0 0,.ptr 1700000006 0 0 0,.ptr 1700000009 0 0 0]]),(1500000005,.box 0 [eI t.s])] [eB false,.ptr 1700000008 0 0 0,.ptr 1700000004 0 0 0,.ptr 1700000007 0 0 0,.ptr 1700000005 0 0 0,.ptr 1700000006 0 0 0,.ptr 1700000009 0 0 0]
  (λr m'=>r=eB (bn m fH n c t).2/\m'=[(1700000008,.box 0 [.ref 1700000010 (bn m fH n c t).1.af 0 c.length]),(1700000010,.row (bn m fH n c t).1.af ⟨1,false⟩ true ((bn m fH n c t).1.zs.map eI)),(1700000004,.box 0 [eI m.ae,eI m.ak,eI m.step,eI m.same,eI m.least]),(1700000007,.box 0 [.cn 228 [.ptr 1500000005 0 0 0]]),(1700000005,.box 0 [.val (.slice none 0 0)]),(1700000006,.box 0 [.val .nilFunc]),(1700000009,.box 0 [.cn 262 [.ptr 1700000008 0 0 0,.ptr 1700000004 0 0 0,.ptr 1700000007 0 0 0,.ptr 1700000005 0 0 0,.ptr 1700000006 0 0 0,.ptr 1700000009 0 0 0]]),(1500000005,.box 0 [eI (bn m fH n c t).1.s])]):=by
 intro n;have ⟨⟨zu,zv⟩,hd1,hd2⟩:=aI hm;induction n with
 |zero=>
  intro c t hl hc hz hs;have hk:((c.length:Int)==m.ae)=true:=beq_iff_eq.2 (by omega);have ht:cP c.length (uq8 eI t.zs)=uq8 eI c:=by rw [←uq9,hz.1]
  have hzl:c.length<=(uq8 eI t.zs).length:=by simpa using hz.2
  refine fL.cW 91 [.tmp 8] func262 (hv:= ?_);simp -dsimp -implicitDefEqProofs only [go_sem,hk];refine aj.lx 8 mixed rfl ?_;simp -dsimp -implicitDefEqProofs only [gW,db,uq2,uq3];have s7:=iF c (by omega);rcases hq:decide ((bf c c.length:Int)<m.least) with _|_
  . have hq':=of_decide_eq_false hq;have eZ:bn m fH 0 c t=(⟨t.af,t.zs,(fH t.s c).1⟩,(fH t.s c).2):=(by rw [bn,if_neg hq']);rw [eZ];simp -dsimp -implicitDefEqProofs only [go_sem,ht,uq3];refine ⟨hz.2,?_⟩;(refine an (s7) ?_;try simp -dsimp -implicitDefEqProofs only [go_sem, *]);refine ⟨by exact rfl,hz.2,?_⟩;refine cX (WY c t.af (t.zs.map eI) t.s (by omega) ht (by omega)) ⟨⟨?_,?_⟩,?_,?_⟩ ?_
    . simp -dsimp -implicitDefEqProofs only [go_sem]
    . simp -dsimp -implicitDefEqProofs only [go_sem];simp
    . simp -dsimp -implicitDefEqProofs only [go_sem]
    . simp -dsimp -implicitDefEqProofs only [go_sem];simp
    rintro r m' ⟨hr,hm'⟩;rw [hr,hm'];simp -dsimp -implicitDefEqProofs only [go_sem];refine ⟨_,rfl,aM ?_ ?_⟩
    . simp -dsimp -implicitDefEqProofs only [go_sem]
    simp -dsimp -implicitDefEqProofs only [go_sem];simp [ao,aq,ck]
  have hq':=oT hq;have eZ:bn m fH 0 c t=(t,true):=by rw [bn,if_pos hq']
  rw [eZ];simp -dsimp -implicitDefEqProofs only [go_sem,ht,uq3];refine ⟨hz.2,?_⟩;(refine an (s7) ?_;try simp -dsimp -implicitDefEqProofs only [go_sem, *]);refine ⟨by exact rfl,_,rfl,aM ?_ ?_⟩
  . simp -dsimp -implicitDefEqProofs only [go_sem]
  simp -dsimp -implicitDefEqProofs only [go_sem];simp [ao,aq,ck]
 |succ n ih=>
  intro c t hl hc hz hs;have hk:((c.length:Int)==m.ae)=false:=beq_eq_false_iff_ne.2 (by omega);refine fL.cW 91 [.tmp 8] func262 (hv:= ?_);simp -dsimp -implicitDefEqProofs only [go_sem,hk];refine aj.up [0,1,2,5,6,9,10] [47,61,69,70,72,84] [1700000008,1700000010,1500000005] m.ak.toNat (λi=>(eO (aS m fH n c) t i).2=true) (λi=>[(11,eI i)]) (λi=>[(1700000008,.box 0 [.ref 1700000010 (eO (aS m fH n c) t i).1.af 0 c.length]),(1700000010,.row (eO (aS m fH n c) t i).1.af ⟨1,false⟩ true ((eO (aS m fH n c) t i).1.zs.map eI)),(1500000005,.box 0 [eI (eO (aS m fH n c) t i).1.s])]) rfl ?_ rfl (λi hi hI=> ?_) (λhI=> ?_)
  . simp -dsimp -implicitDefEqProofs only [go_sem];simp [eO]
  . have hu:DN c (eO (aS m fH n c) t i).1:=pU hz i;have hb:=wq hm (yK hm (f:=fH) (λs k=>⟨(by show s<=s+1;omega),Int.le_refl _⟩) n) t i (c:=c);have hp:(0:Int)<8^n:=Int.pow_pos (by decide);have h8:(i:Int)*8^n<=7*8^n:=Int.mul_le_mul_of_nonneg_right (by omega) (by omega);have h9:(8:Int)^(n+1)=8*8^n:=(by rw [Int.pow_succ,Int.mul_comm]);have hlt:decide ((i:Int)<m.ak)=true:=dT (by omega);have hS:=iX hI;have cy:(aS m fH n c i (eO (aS m fH n c) t i).1).2=false->bn m fH (n+1) c t=aS m fH n c i (eO (aS m fH n c) t i).1:=λh=>by
     rw [←hS] at h ⊢;rw [dP,o9 h m.ak.toNat (by omega)]
    rw [hS];clear hS hI;generalize (eO (aS m fH n c) t i).1=u at*;obtain ⟨hu1,hu2⟩:=hu;have htk:cP c.length (uq8 eI u.zs)=uq8 eI c:=(by rw [←uq9,hu1]);have kp:0<=u.s/\u.s+8^n<=1000000:=(by omega);have hcl:c.length<=6:=(by omega)
    have hih:=ih (c++[(i:Int)]) ⟨u.af+1,c++[(i:Int)],u.s⟩ (by simp;omega) (λx hx=>by
     rcases bj.1 hx with h|h
     . exact hc x h
     simp at h;omega) ⟨dw,bt _⟩ kp
    simp only [uq7,List.length_cons,List.length_nil,Nat.zero_add] at hih;have cG:=kz (c++[(i:Int)]) (by simp) (by simp;omega);simp only [uq7,List.length_cons,List.length_nil,Nat.zero_add,Nat.add_sub_cancel] at cG;have ou:uq8 eI c++[eI (i:Int)]=uq8 eI (c++[(i:Int)]):=(by simp);have l7:bH m c i=(c.isEmpty|| !decide (fj ((i:Int)-c.getD (c.length-1) 0)>m.step)):=by
     unfold bH;congr 1;by_cases h:fj ((i:Int)-c.getD (c.length-1) 0)<=m.step
     . rw [decide_eq_true h,decide_eq_false (by omega)];rfl
     rw [decide_eq_false h,decide_eq_true (by omega)];rfl
    have dK:fZ m c i= !decide ((aZ (c++[(i:Int)]) c.length:Int)>m.same):=by
     unfold fZ;by_cases h:(aZ (c++[(i:Int)]) c.length:Int)<=m.same
     . rw [decide_eq_true h,decide_eq_false (by omega)];rfl
     rw [decide_eq_false h,decide_eq_true (by omega)];rfl
    simp -dsimp -implicitDefEqProofs only [go_sem,hlt];refine aj.draw mixed rfl ?_;have hfn:rM pG 216 .neq=some false:=rfl;rcases hk0:decide ((c.length:Int)>0) with _|_
    . have hce:c=[]:=by
       have:=of_decide_eq_false hk0;exact List.eq_nil_of_length_eq_zero (by omega)
      have hsT:bH m c i=true:=(by rw [hce];rfl);clear hce;simp -dsimp -implicitDefEqProofs only [go_sem,hfn,hk0];refine ⟨by exact rfl,hu2,by omega,?_⟩;refine aj.lx 13 mixed rfl ?_;simp -dsimp -implicitDefEqProofs only [gW,db,uq2,uq3];have htl:cP (c.length+1) (uq8 eI (c++[(i:Int)]))=uq8 eI (c++[(i:Int)]):=cQ (by simp);rcases hq2:decide ((aZ (c++[(i:Int)]) c.length:Int)>m.same) with _|_
      . have hcB:aS m fH n c i u=bn m fH n (c++[(i:Int)]) ⟨u.af+1,c++[(i:Int)],u.s⟩:=(by rw [aS,if_pos hsT,if_pos (by rw [dK,hq2];rfl),hu1]);rw [hcB] at cy ⊢;clear hcB;generalize bn m fH n (c++[(i:Int)]) ⟨u.af+1,c++[(i:Int)],u.s⟩=w at*;obtain ⟨w,b⟩:=w;simp -dsimp -implicitDefEqProofs only [go_sem,htk,ou,htl];(refine an (cG) ?_;try simp -dsimp -implicitDefEqProofs only [go_sem, *]);refine ⟨by exact rfl,?_⟩;refine cX hih ⟨⟨?_,?_⟩,?_,?_⟩ ?_
        . simp -dsimp -implicitDefEqProofs only [go_sem]
        . simp -dsimp -implicitDefEqProofs only [go_sem];simp [ao,aq,ck]
        . simp -dsimp -implicitDefEqProofs only [go_sem]
        . simp -dsimp -implicitDefEqProofs only [go_sem];simp
        rintro r m' ⟨hr,hm'⟩;rw [hr,hm'];clear hr hm';cases b with
        |false=>
         rw [cy rfl];simp -dsimp -implicitDefEqProofs only [go_sem];refine ⟨by omega,_,rfl,aM ?_ ?_⟩
         . simp -dsimp -implicitDefEqProofs only [go_sem]
         simp -dsimp -implicitDefEqProofs only [go_sem];simp [ao,aq,ck]
        |true=>
         simp -dsimp -implicitDefEqProofs only [go_sem];exact ⟨by omega,⟨by omega,by omega⟩,by simp⟩
      have hcB:aS m fH n c i u=(⟨u.af+1,c++[(i:Int)],u.s⟩,true):=(by rw [aS,if_pos hsT,if_neg (by rw [dK,hq2];exact λh=>by cases h),hu1]);rw [hcB];clear hcB cy;simp -dsimp -implicitDefEqProofs only [go_sem,htk,ou,htl];(refine an (cG) ?_;try simp -dsimp -implicitDefEqProofs only [go_sem, *]);exact ⟨by exact rfl,by omega,⟨by omega,by omega⟩,by simp⟩
    have hkp:=oT hk0;have hla:c.getD (c.length-1) 0=c[c.length-1]:=(by simp [uq4,show c.length-1<c.length by omega]);have ka:(uq8 eI u.zs)[c.length-1]? =some (eI (c.getD (c.length-1) 0)):=by have h1:(cP c.length (uq8 eI u.zs))[c.length-1]? =(uq8 eI u.zs)[c.length-1]? :=(by rw [List.getElem?_take];simp;omega);rw [←h1,htk,hla];simp [show c.length-1<c.length by omega]
    have hlb:=hc _ (uq6 (show c.length-1<c.length by omega));rw [←hla] at hlb;generalize c.getD (c.length-1) 0=z at*;clear hla;have e1:((c.length:Int)-1).toNat=c.length-1:=(by omega);have qc:=jq ((i:Int)-z) (by omega);rcases hq:decide (fj ((i:Int)-z)>m.step) with _|_
    . have hsT:bH m c i=true:=(by rw [l7,hq];simp);simp -dsimp -implicitDefEqProofs only [go_sem,hfn,hk0,e1,ka];refine ⟨⟨by omega,by omega⟩,⟨by omega,by omega⟩,⟨by omega,by omega⟩,?_⟩;(refine an (qc) ?_;try simp -dsimp -implicitDefEqProofs only [go_sem, *]);refine ⟨by exact rfl,by omega,?_⟩;refine aj.lx 13 mixed rfl ?_;simp -dsimp -implicitDefEqProofs only [gW,db,uq2,uq3];have htl:cP (c.length+1) (uq8 eI (c++[(i:Int)]))=uq8 eI (c++[(i:Int)]):=cQ (by simp);rcases hq2:decide ((aZ (c++[(i:Int)]) c.length:Int)>m.same) with _|_
      . have hcB:aS m fH n c i u=bn m fH n (c++[(i:Int)]) ⟨u.af+1,c++[(i:Int)],u.s⟩:=(by rw [aS,if_pos hsT,if_pos (by rw [dK,hq2];rfl),hu1]);rw [hcB] at cy ⊢;clear hcB;generalize bn m fH n (c++[(i:Int)]) ⟨u.af+1,c++[(i:Int)],u.s⟩=w at*;obtain ⟨w,b⟩:=w;simp -dsimp -implicitDefEqProofs only [go_sem,htl];(refine an (cG) ?_;try simp -dsimp -implicitDefEqProofs only [go_sem, *]);refine ⟨by exact rfl,?_⟩;refine cX hih ⟨⟨?_,?_⟩,?_,?_⟩ ?_
        . simp -dsimp -implicitDefEqProofs only [go_sem]
        . simp -dsimp -implicitDefEqProofs only [go_sem];simp [ao,aq,ck]
        . simp -dsimp -implicitDefEqProofs only [go_sem]
        . simp -dsimp -implicitDefEqProofs only [go_sem];simp
        rintro r m' ⟨hr,hm'⟩;rw [hr,hm'];clear hr hm';cases b with
        |false=>
         rw [cy rfl];simp -dsimp -implicitDefEqProofs only [go_sem];refine ⟨by omega,_,rfl,aM ?_ ?_⟩
         . simp -dsimp -implicitDefEqProofs only [go_sem]
         simp -dsimp -implicitDefEqProofs only [go_sem];simp [ao,aq,ck]
        |true=>
         simp -dsimp -implicitDefEqProofs only [go_sem];exact ⟨by omega,⟨by omega,by omega⟩,by simp⟩
      have hcB:aS m fH n c i u=(⟨u.af+1,c++[(i:Int)],u.s⟩,true):=(by rw [aS,if_pos hsT,if_neg (by rw [dK,hq2];exact λh=>by cases h),hu1]);rw [hcB];clear hcB cy;simp -dsimp -implicitDefEqProofs only [go_sem,htl];(refine an (cG) ?_;try simp -dsimp -implicitDefEqProofs only [go_sem, *]);exact ⟨by exact rfl,by omega,⟨by omega,by omega⟩,by simp⟩
    have hsF:bH m c i=false:=by
     rw [l7,hq];cases c with
     |nil=>simp at hkp
     |cons=>rfl
    have hcB:aS m fH n c i u=(u,true):=(by rw [aS,if_neg (by rw [hsF];exact λh=>by cases h)]);rw [hcB];clear hcB cy;simp -dsimp -implicitDefEqProofs only [go_sem,hfn,hk0,e1,ka];refine ⟨⟨by omega,by omega⟩,⟨by omega,by omega⟩,⟨by omega,by omega⟩,?_⟩;(refine an (qc) ?_;try simp -dsimp -implicitDefEqProofs only [go_sem, *]);exact ⟨by exact rfl,⟨by omega,by omega⟩,by simp⟩
  simp -dsimp -implicitDefEqProofs only [pz,cm,ft,e7,↓reduceIte,eX];have hlt:decide (((m.ak.toNat:Nat):Int)<m.ak)=false:=dF (by omega);simp -dsimp -implicitDefEqProofs only [go_sem,hlt];rw [dP];refine ⟨_,⟨by rw [hI],rfl⟩,aM ?_ ?_⟩
  . simp -dsimp -implicitDefEqProofs only [go_sem]
  simp -dsimp -implicitDefEqProofs only [go_sem];simp [ao,aq,ck]
theorem W2 (key:lI) (V4:key.length<=1048576) (c:lI) (af:Nat) (ys:lA) (s:Int) (hc:c.length<=6) (hy:ys.take c.length=c.map eI) (hs:0<=s/\s<=1000000):
 fL pG 226 [(1700000010,.row af ⟨1,false⟩ true ys),(1500000003,.box 0 [aP key]),(1500000007,.box 0 [eI s])] [.ref 1700000010 af 0 c.length,.ptr 1500000003 0 0 0,.ptr 1500000007 0 0 0]
  (λr m'=>r=eB ((cq key) s c).2/\m'=[(1700000010,.row af ⟨1,false⟩ true ys),(1500000003,.box 0 [aP key]),(1500000007,.box 0 [eI ((cq key) s c).1])]):=by
 refine fL.cW 10 [.tmp 4] func226 (hv:= ?_);have heq:=FW c key (by omega);have hyl:c.length<=ys.length:=by have:=congrArg List.length hy;simp at this;omega
 by_cases hk:c=key
 . rw [decide_eq_true hk] at heq;have hr:cq key s c=(s,false):=if_pos hk;rw [hr];clear hr hk;simp -dsimp -implicitDefEqProofs only [go_sem,hy]
   repeat' first
    |(with_reducible refine ai ?_ ?_)
    |(refine aa (heq) ?_;try simp -dsimp -implicitDefEqProofs only [go_sem, *])
   all_goals first
    |exact hyl
    |(refine ⟨_,rfl,aM ?_ ?_⟩
      . simp -dsimp -implicitDefEqProofs only [go_sem]
      simp -dsimp -implicitDefEqProofs only [go_sem]
      simp)
    |skip
 rw [decide_eq_false hk] at heq;have hr:cq key s c=(s+1,true):=if_neg hk;rw [hr];clear hr hk;simp -dsimp -implicitDefEqProofs only [go_sem,hy]
 repeat' first
  |(with_reducible refine ai ?_ ?_)
  |(refine aa (heq) ?_;try simp -dsimp -implicitDefEqProofs only [go_sem, *])
 all_goals first
  |exact hyl
  |exact ⟨by omega,by omega⟩
  |(refine ⟨_,rfl,aM ?_ ?_⟩
    . simp -dsimp -implicitDefEqProofs only [go_sem]
    simp -dsimp -implicitDefEqProofs only [go_sem]
    simp)
  |skip
theorem W4 (key:lI) (V4:key.length<=1048576) (m:aL) (hm:aW m=true):∀(n:Nat) (c:lI) (t:KS Int),(c.length:Int)+n=m.ae->(∀x∈c,0<=x/\x<=7)->DN c t->(0<=t.s/\t.s+8^n<=1000000)→
 fL pG 262 [(1700000008,.box 0 [.ref 1700000010 t.af 0 c.length]),(1700000010,.row t.af ⟨1,false⟩ true (t.zs.map eI)),(1700000004,.box 0 [eI m.ae,eI m.ak,eI m.step,eI m.same,eI m.least]),(1700000007,.box 0 [.cn 226 [.ptr 1500000003 0 0 0,.ptr 1500000007 0 0 0]]),(1700000005,.box 0 [.val (.slice none 0 0)]),(1700000006,.box 0 [.val .nilFunc]),(1700000009,.box 0 [.cn 262 [.ptr 1700000008 0 0 0,.ptr 1700000004 0 0 0,.ptr 1700000007 0 0 0,.ptr 1700000005 0 0 0,.ptr 1700000006 0 0 0,.ptr 1700000009 0 0 0]]),(1500000003,.box 0 [aP key]),(1500000007,.box 0 [eI t.s])] [eB false,.ptr 1700000008 0 0 0,.ptr 1700000004 0 0 0,.ptr 1700000007 0 0 0,.ptr 1700000005 0 0 0,.ptr 1700000006 0 0 0,.ptr 1700000009 0 0 0]
  (λr m'=>r=eB (bn m (cq key) n c t).2/\m'=[(1700000008,.box 0 [.ref 1700000010 (bn m (cq key) n c t).1.af 0 c.length]),(1700000010,.row (bn m (cq key) n c t).1.af ⟨1,false⟩ true ((bn m (cq key) n c t).1.zs.map eI)),(1700000004,.box 0 [eI m.ae,eI m.ak,eI m.step,eI m.same,eI m.least]),(1700000007,.box 0 [.cn 226 [.ptr 1500000003 0 0 0,.ptr 1500000007 0 0 0]]),(1700000005,.box 0 [.val (.slice none 0 0)]),(1700000006,.box 0 [.val .nilFunc]),(1700000009,.box 0 [.cn 262 [.ptr 1700000008 0 0 0,.ptr 1700000004 0 0 0,.ptr 1700000007 0 0 0,.ptr 1700000005 0 0 0,.ptr 1700000006 0 0 0,.ptr 1700000009 0 0 0]]),(1500000003,.box 0 [aP key]),(1500000007,.box 0 [eI (bn m (cq key) n c t).1.s])]):=by
 intro n;have ⟨⟨zu,zv⟩,hd1,hd2⟩:=aI hm;induction n with
 |zero=>
  intro c t hl hc hz hs;have hk:((c.length:Int)==m.ae)=true:=beq_iff_eq.2 (by omega);have ht:cP c.length (uq8 eI t.zs)=uq8 eI c:=by rw [←uq9,hz.1]
  have hzl:c.length<=(uq8 eI t.zs).length:=by simpa using hz.2
  refine fL.cW 91 [.tmp 8] func262 (hv:= ?_);simp -dsimp -implicitDefEqProofs only [go_sem,hk];refine aj.lx 8 mixed rfl ?_;simp -dsimp -implicitDefEqProofs only [gW,db,uq2,uq3];have s7:=iF c (by omega);rcases hq:decide ((bf c c.length:Int)<m.least) with _|_
  . have hq':=of_decide_eq_false hq;have eZ:bn m (cq key) 0 c t=(⟨t.af,t.zs,((cq key) t.s c).1⟩,((cq key) t.s c).2):=(by rw [bn,if_neg hq']);rw [eZ];simp -dsimp -implicitDefEqProofs only [go_sem,ht,uq3];refine ⟨hz.2,?_⟩;(refine an (s7) ?_;try simp -dsimp -implicitDefEqProofs only [go_sem, *]);refine ⟨by exact rfl,hz.2,?_⟩;refine cX (W2 key V4 c t.af (t.zs.map eI) t.s (by omega) ht (by omega)) ⟨⟨?_,?_⟩,?_,?_⟩ ?_
    . simp -dsimp -implicitDefEqProofs only [go_sem]
    . simp -dsimp -implicitDefEqProofs only [go_sem];simp
    . simp -dsimp -implicitDefEqProofs only [go_sem]
    . simp -dsimp -implicitDefEqProofs only [go_sem];simp
    rintro r m' ⟨hr,hm'⟩;rw [hr,hm'];simp -dsimp -implicitDefEqProofs only [go_sem];refine ⟨_,rfl,aM ?_ ?_⟩
    . simp -dsimp -implicitDefEqProofs only [go_sem]
    simp -dsimp -implicitDefEqProofs only [go_sem];simp [ao,aq,ck]
  have hq':=oT hq;have eZ:bn m (cq key) 0 c t=(t,true):=by rw [bn,if_pos hq']
  rw [eZ];simp -dsimp -implicitDefEqProofs only [go_sem,ht,uq3];refine ⟨hz.2,?_⟩;(refine an (s7) ?_;try simp -dsimp -implicitDefEqProofs only [go_sem, *]);refine ⟨by exact rfl,_,rfl,aM ?_ ?_⟩
  . simp -dsimp -implicitDefEqProofs only [go_sem]
  simp -dsimp -implicitDefEqProofs only [go_sem];simp [ao,aq,ck]
 |succ n ih=>
  intro c t hl hc hz hs;have hk:((c.length:Int)==m.ae)=false:=beq_eq_false_iff_ne.2 (by omega);refine fL.cW 91 [.tmp 8] func262 (hv:= ?_);simp -dsimp -implicitDefEqProofs only [go_sem,hk];refine aj.up [0,1,2,5,6,9,10] [47,61,69,70,72,84] [1700000008,1700000010,1500000007] m.ak.toNat (λi=>(eO (aS m (cq key) n c) t i).2=true) (λi=>[(11,eI i)]) (λi=>[(1700000008,.box 0 [.ref 1700000010 (eO (aS m (cq key) n c) t i).1.af 0 c.length]),(1700000010,.row (eO (aS m (cq key) n c) t i).1.af ⟨1,false⟩ true ((eO (aS m (cq key) n c) t i).1.zs.map eI)),(1500000007,.box 0 [eI (eO (aS m (cq key) n c) t i).1.s])]) rfl ?_ rfl (λi hi hI=> ?_) (λhI=> ?_)
  . simp -dsimp -implicitDefEqProofs only [go_sem];simp [eO]
  . have hu:DN c (eO (aS m (cq key) n c) t i).1:=pU hz i;have hb:=wq hm (yK hm (f:=(cq key)) (λs k=>by unfold cq;split;exact ⟨Int.le_refl _,(by show s<=s+1;omega)⟩;exact ⟨(by show s<=s+1;omega),Int.le_refl _⟩) n) t i (c:=c);have hp:(0:Int)<8^n:=Int.pow_pos (by decide);have h8:(i:Int)*8^n<=7*8^n:=Int.mul_le_mul_of_nonneg_right (by omega) (by omega);have h9:(8:Int)^(n+1)=8*8^n:=(by rw [Int.pow_succ,Int.mul_comm]);have hlt:decide ((i:Int)<m.ak)=true:=dT (by omega);have hS:=iX hI;have cy:(aS m (cq key) n c i (eO (aS m (cq key) n c) t i).1).2=false->bn m (cq key) (n+1) c t=aS m (cq key) n c i (eO (aS m (cq key) n c) t i).1:=λh=>by
     rw [←hS] at h ⊢;rw [dP,o9 h m.ak.toNat (by omega)]
    rw [hS];clear hS hI;generalize (eO (aS m (cq key) n c) t i).1=u at*;obtain ⟨hu1,hu2⟩:=hu;have htk:cP c.length (uq8 eI u.zs)=uq8 eI c:=(by rw [←uq9,hu1]);have kp:0<=u.s/\u.s+8^n<=1000000:=(by omega);have hcl:c.length<=6:=(by omega)
    have hih:=ih (c++[(i:Int)]) ⟨u.af+1,c++[(i:Int)],u.s⟩ (by simp;omega) (λx hx=>by
     rcases bj.1 hx with h|h
     . exact hc x h
     simp at h;omega) ⟨dw,bt _⟩ kp
    simp only [uq7,List.length_cons,List.length_nil,Nat.zero_add] at hih;have cG:=kz (c++[(i:Int)]) (by simp) (by simp;omega);simp only [uq7,List.length_cons,List.length_nil,Nat.zero_add,Nat.add_sub_cancel] at cG;have ou:uq8 eI c++[eI (i:Int)]=uq8 eI (c++[(i:Int)]):=(by simp);have l7:bH m c i=(c.isEmpty|| !decide (fj ((i:Int)-c.getD (c.length-1) 0)>m.step)):=by
     unfold bH;congr 1;by_cases h:fj ((i:Int)-c.getD (c.length-1) 0)<=m.step
     . rw [decide_eq_true h,decide_eq_false (by omega)];rfl
     rw [decide_eq_false h,decide_eq_true (by omega)];rfl
    have dK:fZ m c i= !decide ((aZ (c++[(i:Int)]) c.length:Int)>m.same):=by
     unfold fZ;by_cases h:(aZ (c++[(i:Int)]) c.length:Int)<=m.same
     . rw [decide_eq_true h,decide_eq_false (by omega)];rfl
     rw [decide_eq_false h,decide_eq_true (by omega)];rfl
    simp -dsimp -implicitDefEqProofs only [go_sem,hlt];refine aj.draw mixed rfl ?_;have hfn:rM pG 216 .neq=some false:=rfl;rcases hk0:decide ((c.length:Int)>0) with _|_
    . have hce:c=[]:=by
       have:=of_decide_eq_false hk0;exact List.eq_nil_of_length_eq_zero (by omega)
      have hsT:bH m c i=true:=(by rw [hce];rfl);clear hce;simp -dsimp -implicitDefEqProofs only [go_sem,hfn,hk0];refine ⟨by exact rfl,hu2,by omega,?_⟩;refine aj.lx 13 mixed rfl ?_;simp -dsimp -implicitDefEqProofs only [gW,db,uq2,uq3];have htl:cP (c.length+1) (uq8 eI (c++[(i:Int)]))=uq8 eI (c++[(i:Int)]):=cQ (by simp);rcases hq2:decide ((aZ (c++[(i:Int)]) c.length:Int)>m.same) with _|_
      . have hcB:aS m (cq key) n c i u=bn m (cq key) n (c++[(i:Int)]) ⟨u.af+1,c++[(i:Int)],u.s⟩:=(by rw [aS,if_pos hsT,if_pos (by rw [dK,hq2];rfl),hu1]);rw [hcB] at cy ⊢;clear hcB;generalize bn m (cq key) n (c++[(i:Int)]) ⟨u.af+1,c++[(i:Int)],u.s⟩=w at*;obtain ⟨w,b⟩:=w;simp -dsimp -implicitDefEqProofs only [go_sem,htk,ou,htl];(refine an (cG) ?_;try simp -dsimp -implicitDefEqProofs only [go_sem, *]);refine ⟨by exact rfl,?_⟩;refine cX hih ⟨⟨?_,?_⟩,?_,?_⟩ ?_
        . simp -dsimp -implicitDefEqProofs only [go_sem]
        . simp -dsimp -implicitDefEqProofs only [go_sem];simp [ao,aq,ck]
        . simp -dsimp -implicitDefEqProofs only [go_sem]
        . simp -dsimp -implicitDefEqProofs only [go_sem];simp
        rintro r m' ⟨hr,hm'⟩;rw [hr,hm'];clear hr hm';cases b with
        |false=>
         rw [cy rfl];simp -dsimp -implicitDefEqProofs only [go_sem];refine ⟨by omega,_,rfl,aM ?_ ?_⟩
         . simp -dsimp -implicitDefEqProofs only [go_sem]
         simp -dsimp -implicitDefEqProofs only [go_sem];simp [ao,aq,ck]
        |true=>
         simp -dsimp -implicitDefEqProofs only [go_sem];exact ⟨by omega,⟨by omega,by omega⟩,by simp⟩
      have hcB:aS m (cq key) n c i u=(⟨u.af+1,c++[(i:Int)],u.s⟩,true):=(by rw [aS,if_pos hsT,if_neg (by rw [dK,hq2];exact λh=>by cases h),hu1]);rw [hcB];clear hcB cy;simp -dsimp -implicitDefEqProofs only [go_sem,htk,ou,htl];(refine an (cG) ?_;try simp -dsimp -implicitDefEqProofs only [go_sem, *]);exact ⟨by exact rfl,by omega,⟨by omega,by omega⟩,by simp⟩
    have hkp:=oT hk0;have hla:c.getD (c.length-1) 0=c[c.length-1]:=(by simp [uq4,show c.length-1<c.length by omega]);have ka:(uq8 eI u.zs)[c.length-1]? =some (eI (c.getD (c.length-1) 0)):=by have h1:(cP c.length (uq8 eI u.zs))[c.length-1]? =(uq8 eI u.zs)[c.length-1]? :=(by rw [List.getElem?_take];simp;omega);rw [←h1,htk,hla];simp [show c.length-1<c.length by omega]
    have hlb:=hc _ (uq6 (show c.length-1<c.length by omega));rw [←hla] at hlb;generalize c.getD (c.length-1) 0=z at*;clear hla;have e1:((c.length:Int)-1).toNat=c.length-1:=(by omega);have qc:=jq ((i:Int)-z) (by omega);rcases hq:decide (fj ((i:Int)-z)>m.step) with _|_
    . have hsT:bH m c i=true:=(by rw [l7,hq];simp);simp -dsimp -implicitDefEqProofs only [go_sem,hfn,hk0,e1,ka];refine ⟨⟨by omega,by omega⟩,⟨by omega,by omega⟩,⟨by omega,by omega⟩,?_⟩;(refine an (qc) ?_;try simp -dsimp -implicitDefEqProofs only [go_sem, *]);refine ⟨by exact rfl,by omega,?_⟩;refine aj.lx 13 mixed rfl ?_;simp -dsimp -implicitDefEqProofs only [gW,db,uq2,uq3];have htl:cP (c.length+1) (uq8 eI (c++[(i:Int)]))=uq8 eI (c++[(i:Int)]):=cQ (by simp);rcases hq2:decide ((aZ (c++[(i:Int)]) c.length:Int)>m.same) with _|_
      . have hcB:aS m (cq key) n c i u=bn m (cq key) n (c++[(i:Int)]) ⟨u.af+1,c++[(i:Int)],u.s⟩:=(by rw [aS,if_pos hsT,if_pos (by rw [dK,hq2];rfl),hu1]);rw [hcB] at cy ⊢;clear hcB;generalize bn m (cq key) n (c++[(i:Int)]) ⟨u.af+1,c++[(i:Int)],u.s⟩=w at*;obtain ⟨w,b⟩:=w;simp -dsimp -implicitDefEqProofs only [go_sem,htl];(refine an (cG) ?_;try simp -dsimp -implicitDefEqProofs only [go_sem, *]);refine ⟨by exact rfl,?_⟩;refine cX hih ⟨⟨?_,?_⟩,?_,?_⟩ ?_
        . simp -dsimp -implicitDefEqProofs only [go_sem]
        . simp -dsimp -implicitDefEqProofs only [go_sem];simp [ao,aq,ck]
        . simp -dsimp -implicitDefEqProofs only [go_sem]
        . simp -dsimp -implicitDefEqProofs only [go_sem];simp
        rintro r m' ⟨hr,hm'⟩;rw [hr,hm'];clear hr hm';cases b with
        |false=>
         rw [cy rfl];simp -dsimp -implicitDefEqProofs only [go_sem];refine ⟨by omega,_,rfl,aM ?_ ?_⟩
         . simp -dsimp -implicitDefEqProofs only [go_sem]
         simp -dsimp -implicitDefEqProofs only [go_sem];simp [ao,aq,ck]
        |true=>
         simp -dsimp -implicitDefEqProofs only [go_sem];exact ⟨by omega,⟨by omega,by omega⟩,by simp⟩
      have hcB:aS m (cq key) n c i u=(⟨u.af+1,c++[(i:Int)],u.s⟩,true):=(by rw [aS,if_pos hsT,if_neg (by rw [dK,hq2];exact λh=>by cases h),hu1]);rw [hcB];clear hcB cy;simp -dsimp -implicitDefEqProofs only [go_sem,htl];(refine an (cG) ?_;try simp -dsimp -implicitDefEqProofs only [go_sem, *]);exact ⟨by exact rfl,by omega,⟨by omega,by omega⟩,by simp⟩
    have hsF:bH m c i=false:=by
     rw [l7,hq];cases c with
     |nil=>simp at hkp
     |cons=>rfl
    have hcB:aS m (cq key) n c i u=(u,true):=(by rw [aS,if_neg (by rw [hsF];exact λh=>by cases h)]);rw [hcB];clear hcB cy;simp -dsimp -implicitDefEqProofs only [go_sem,hfn,hk0,e1,ka];refine ⟨⟨by omega,by omega⟩,⟨by omega,by omega⟩,⟨by omega,by omega⟩,?_⟩;(refine an (qc) ?_;try simp -dsimp -implicitDefEqProofs only [go_sem, *]);exact ⟨by exact rfl,⟨by omega,by omega⟩,by simp⟩
  simp -dsimp -implicitDefEqProofs only [pz,cm,ft,e7,↓reduceIte,eX];have hlt:decide (((m.ak.toNat:Nat):Int)<m.ak)=false:=dF (by omega);simp -dsimp -implicitDefEqProofs only [go_sem,hlt];rw [dP];refine ⟨_,⟨by rw [hI],rfl⟩,aM ?_ ?_⟩
  . simp -dsimp -implicitDefEqProofs only [go_sem]
  simp -dsimp -implicitDefEqProofs only [go_sem];simp [ao,aq,ck]
theorem yP (m:aL) (hm:aW m=true):∀(n:Nat) (c:lI),(c.length:Int)+n=m.ae->(∀x∈c,0<=x/\x<=7)->Fn pG 143 [ky m,aP c] true (· =eI (lR m n c)):=by
 intro n;have ⟨⟨zu,zv⟩,hd1,hd2⟩:=aI hm;induction n with
 |zero=>
  intro c hl hc;refine Fn.av 37 [.tmp 4] func143 (hv:= ?_);have hbe:=lT m c hm (by omega) hc;have hk:((c.length:Int)==m.ae)=true:=beq_iff_eq.2 (by omega);rcases hb:eP m c with _|_
  . have ju:lR m 0 c=0:=(by rw [lR,if_neg (by rw [hb];exact λh=>by cases h)]);rw [hb] at hbe;rw [ju];simp -dsimp -implicitDefEqProofs only [go_sem];(refine aa (hbe) ?_;try simp -dsimp -implicitDefEqProofs only [go_sem, *])
  have ju:=PO m c hb;rw [hb] at hbe;rw [ju];have hki:=qX c (by omega);rcases hq:decide ((bf c c.length:Int)<m.least) with _|_
  . rw [if_neg (of_decide_eq_false hq)];clear ju hb;simp -dsimp -implicitDefEqProofs only [go_sem];(refine aa (hbe) ?_;try simp -dsimp -implicitDefEqProofs only [go_sem, *]);refine aj.draw mixed rfl ?_;simp -dsimp -implicitDefEqProofs only [go_sem];(refine an (hki) ?_;try simp -dsimp -implicitDefEqProofs only [go_sem, *]);(exact ⟨by exact rfl,rfl⟩)
  rw [if_pos (oT hq)];clear ju hb;simp -dsimp -implicitDefEqProofs only [go_sem];(refine aa (hbe) ?_;try simp -dsimp -implicitDefEqProofs only [go_sem, *]);refine aj.draw mixed rfl ?_;simp -dsimp -implicitDefEqProofs only [go_sem];(refine an (hki) ?_;try simp -dsimp -implicitDefEqProofs only [go_sem, *]);exact rfl
 |succ n ih=>
  intro c hl hc;refine Fn.av 37 [.tmp 4] func143 (hv:= ?_);have hbe:=lT m c hm (by omega) hc;have hk:((c.length:Int)==m.ae)=false:=beq_eq_false_iff_ne.2 (by omega);rcases hb:eP m c with _|_
  . have ju:lR m (n+1) c=0:=(by rw [lR,if_neg (by rw [hb];exact λh=>by cases h)]);rw [hb] at hbe;rw [ju];simp -dsimp -implicitDefEqProofs only [go_sem];(refine aa (hbe) ?_;try simp -dsimp -implicitDefEqProofs only [go_sem, *])
  have ju:=PQ m n c hb;rw [hb] at hbe;rw [ju];clear ju hb;have a_:=sK c (by omega);simp -dsimp -implicitDefEqProofs only [go_sem];(refine aa (hbe) ?_;try simp -dsimp -implicitDefEqProofs only [go_sem, *]);refine aj.up [1,2] [30,32,33,34] [] m.ak.toNat (λ_=>True) (λi=>[(6,eI i),(5,eI (jU m n c i))]) (λ_=>[]) trivial ?_ rfl (λi hi _=> ?_) (λ_=> ?_)
  . simp -dsimp -implicitDefEqProofs only [go_sem];try simp [jU]
  . have hih:=ih (c++[(i:Int)]) (by simp;omega) (λx hx=>by
     rcases bj.1 hx with h|h
     . exact hc x h
     simp at h;omega)
    have hlt:decide ((i:Int)<m.ak)=true:=dT (by omega);have ou:uq8 eI c++[eI (i:Int)]=uq8 eI (c++[(i:Int)]):=(by simp);have htk:cP c.length (uq8 eI c)=uq8 eI c:=cQ (by simp);have htl:cP (c.length+1) (uq8 eI (c++[(i:Int)]))=uq8 eI (c++[(i:Int)]):=cQ (by simp);have hb1:=yN m hm n c i;have hb2:=Db m hm n (c++[(i:Int)]);have hp:8^n<=8^6:=dD (by decide) (by omega);have h8:i*8^n<=7*8^n:=Nat.mul_le_mul_right _ (by omega);rw [nJ];clear ih;generalize 8^n=p at*;generalize jU m n c i=A at*;generalize lR m n (c++[(i:Int)])=Bn at*;simp -dsimp -implicitDefEqProofs only [go_sem,hlt];refine aj.draw mixed rfl ?_;simp -dsimp -implicitDefEqProofs only [go_sem];(refine an (a_) ?_;try simp -dsimp -implicitDefEqProofs only [go_sem, *]);refine ⟨by omega,?_⟩;(refine an (hih) ?_;try simp -dsimp -implicitDefEqProofs only [go_sem, *]);exact ⟨⟨by omega,by omega⟩,by exact rfl,⟨by omega,by omega⟩,by simp,by simp⟩
  have hlt:decide (((m.ak.toNat:Nat):Int)<m.ak)=false:=dF (by omega);simp -dsimp -implicitDefEqProofs only [go_sem,hlt]
theorem vC (m:aL) (key:lI) (h:key.length<=1048576):Fn pG 174 [ky m,aQ [key]] true (· =eI (if aW m=true then if fault m key=0 then 0 else 2 else 1)):=by
 refine Fn.av 21 [.tmp 4] func174 (hv:= ?_);have hm0:=eU m;rcases hm:aW m with _|_
 . rw [hm] at hm0;clear hm;simp -dsimp -implicitDefEqProofs only [go_sem];repeat' (refine aa (hm0) ?_;try simp -dsimp -implicitDefEqProofs only [go_sem, *])
   all_goals simp
 have hk:Fn pG 76 [ky m,aP key] true (· =eB (fault m key==0)):=by refine Fn.av 9 [.tmp 4] func76 (hv:= ?_);have hf:=yF m key hm h;simp -dsimp -implicitDefEqProofs only [go_sem];repeat' (refine aa (hf) ?_;try simp -dsimp -implicitDefEqProofs only [go_sem, *])
 rw [hm] at hm0;clear hm;have h01:decide ((0:Int)<((1:Nat):Int))=true:=rfl;have h11:decide (((1:Nat):Int)<((1:Nat):Int))=false:=rfl;rcases hq:(fault m key==0) with _|_
 all_goals
  have hF:=hq;simp only [beq_iff_eq,beq_eq_false_iff_ne] at hF;rw [hq] at hk;simp only [hF,if_true,if_false];clear hq hF;simp -dsimp -implicitDefEqProofs only [go_sem];repeat' (refine aa (hm0) ?_;try simp -dsimp -implicitDefEqProofs only [go_sem, *])
 . refine aj.up [2,10,11] [18] [] 1 (λi=>i=0) (λi=>[(12,eI i)]) (λ_=>[]) rfl ?_ rfl (λi hi hI=> ?_) (λhI=> ?_)
   . simp -dsimp -implicitDefEqProofs only [go_sem]
   . subst hI;simp -dsimp -implicitDefEqProofs only [go_sem,h01]
     repeat' first
      |(with_reducible refine ai ?_ ?_)
      |(refine aa (hk) ?_;try simp -dsimp -implicitDefEqProofs only [go_sem, *])
     all_goals first
      |omega
      |skip
   cases hI
 refine aj.up [2,10,11] [18] [] 1 (λi=>True) (λi=>[(12,eI i)]) (λ_=>[]) trivial ?_ rfl (λi hi hI=> ?_) (λhI=> ?_)
 . simp -dsimp -implicitDefEqProofs only [go_sem]
 . obtain rfl:i=0:=by omega
   simp -dsimp -implicitDefEqProofs only [go_sem,h01]
   repeat' first
    |(with_reducible refine ai ?_ ?_)
    |(refine aa (hk) ?_;try simp -dsimp -implicitDefEqProofs only [go_sem, *])
   all_goals first
    |omega
    |exact ⟨by omega,by omega⟩
    |rfl
    |skip
 simp -dsimp -implicitDefEqProofs only [go_sem,h11]
theorem Mr (m:aL) (key:lI) (hm:aW m=true) (hf:fault m key=0):Fn pG 153 [ky m,aP key] true (· =eI (cF m key key.length)):=by
 refine Fn.av 34 [.tmp 4] func153 (hv:= ?_);obtain ⟨hl,hel,_,_⟩:=pV hf;have ⟨⟨zu,zv⟩,hd1,hd2⟩:=aI hm;have hrb:∀i,i<=key.length->cF m key i<=i*8^6:=by
  intro i hi;induction i with
  |zero=>simp [cF]
  |succ i ih=>
   have h1:=ih (by omega);have hx:=hel (key.getD i 0) (by rw [uq4,uq5 (by omega)];exact uq6 _);have h2:=yN m hm (key.length-(i+1)) (key.take i) (key.getD i 0).toNat;have h3:(key.getD i 0).toNat*8^(key.length-(i+1))<=8*8^5:=Nat.mul_le_mul (by omega) (dD (by decide) (by omega));rw [cF,Nat.succ_mul];omega
 simp -dsimp -implicitDefEqProofs only [go_sem];refine aj.up [1,2] [10,27,29,30,31] [] key.length (λ_=>True) (λi=>[(6,eI i),(5,eI (cF m key i))]) (λ_=>[]) trivial ?_ rfl (λi hi _=> ?_) (λ_=> ?_)
 . simp -dsimp -implicitDefEqProofs only [go_sem];try simp [cF]
 . have gi:=get_some hi;have li:=aE hi;have hx:=hel key[i] (uq6 hi);have hr1:=hrb i (by omega);have hgd:key.getD i 0=key[i]:=(by simp [uq4,hi]);have lh:cF m key (i+1)=cF m key i+jU m (key.length-(i+1)) (key.take i) key[i].toNat:=(by rw [cF,hgd]);rw [lh];clear lh hgd hrb;have hcl:∀d,jU m (key.length-(i+1)) (key.take i) d<=d*8^5:=λd=>Nat.le_trans (yN m hm _ _ d) (Nat.mul_le_mul_left _ (dD (by decide) (by omega)));generalize cF m key i=R at*;simp -dsimp -implicitDefEqProofs only [go_sem,li];refine aj.up [1,2,6] [27,29,30,31] [] key[i].toNat (λ_=>True) (λd=>[(7,eI d),(5,eI ((R:Int)+jU m (key.length-(i+1)) (key.take i) d))]) (λ_=>[]) trivial ?_ rfl (λd hd _=> ?_) (λ_=> ?_)
   . simp -dsimp -implicitDefEqProofs only [go_sem];try simp [jU]
   . have hlt:decide ((d:Int)<key[i])=true:=dT (by omega)
     have ju:=yP m hm (key.length-(i+1)) (key.take i++[(d:Int)]) (by simp;omega) (λx hx2=>by
      rcases bj.1 hx2 with h|h
      . have:=hel x (List.mem_of_mem_take h);omega
      simp at h;omega)
     have a_:=sK (key.take i) (by simp;omega);have htk:cP i (uq8 eI key)=uq8 eI (key.take i):=uq9.symm;have ou:uq8 eI (key.take i)++[eI (d:Int)]=uq8 eI (key.take i++[(d:Int)]):=(by simp);have hlen:(key.take i).length=i:=(by simp;omega);have hb1:=hcl d;have hb2:=Db m hm (key.length-(i+1)) (key.take i++[(d:Int)]);have hp:8^(key.length-(i+1))<=8^5:=dD (by decide) (by omega);have htl:cP (i+1) (uq8 eI (key.take i++[(d:Int)]))=uq8 eI (key.take i++[(d:Int)]):=cQ (by simp;omega);have YO:cP i (uq8 eI (key.take i))=uq8 eI (key.take i):=cQ (by simp;omega);rw [nJ];clear hcl hel;generalize hT:key.take i=T at*;generalize jU m (key.length-(i+1)) T d=A at*;generalize lR m (key.length-(i+1)) (T++[(d:Int)])=Bn at*;generalize 8^(key.length-(i+1))=p at*;simp -dsimp -implicitDefEqProofs only [go_sem,hlt,gi];refine ⟨by omega,?_⟩;refine aj.draw mixed rfl ?_;simp -dsimp -implicitDefEqProofs only [go_sem,htk];refine ⟨by omega,?_⟩;(refine an (a_) ?_;try simp -dsimp -implicitDefEqProofs only [go_sem, *]);refine ⟨by omega,?_⟩;(refine an (ju) ?_;try simp -dsimp -implicitDefEqProofs only [go_sem, *]);exact ⟨⟨by omega,by omega⟩,by exact rfl,⟨by omega,by omega⟩,by simp,by simp;omega⟩
   have hlt:decide (((key[i].toNat:Nat):Int)<key[i])=false:=dF (by omega);simp -dsimp -implicitDefEqProofs only [go_sem,hlt,gi];exact ⟨by omega,⟨by omega,by omega⟩,by simp,by simp⟩
 simp -dsimp -implicitDefEqProofs only [go_sem,ay]
theorem vD (m:aL) (hm:aW m=true):Fn pG 176 [ky m,.val .nilFunc] true (· =eI (lR m m.ae.toNat [])):=by
 refine Fn.av 11 [.tmp 4] func176 (hv:= ?_);have s8:=aI hm;have h8:(8:Int)^m.ae.toNat<=8^6:=by
  have:8^m.ae.toNat<=8^6:=dD (by decide) (by omega)
  exact_mod_cast this
 have eZ:=WZ m hm m.ae.toNat [] ⟨0,[],0⟩ (by simp;omega) (λx hx=>by cases hx) ⟨rfl,bt _⟩ ⟨Int.le_refl _,by show (0:Int)+_<=_;omega⟩;have hsp:=(iH m fH m.ae.toNat [] ⟨0,[],0⟩ ⟨rfl,bt _⟩).2.1;rw [BX] at hsp;have hc:lR m m.ae.toNat []=(a6 m m.ae.toNat []).length:=by rw [lR,if_pos (show eP m []=true from rfl)]
 rw [hc];simp only [Int.zero_add] at hsp;rw [←hsp];generalize bn m fH m.ae.toNat [] ⟨0,[],0⟩=w at*;simp -dsimp -implicitDefEqProofs only [go_sem];refine bN 900000 16 [] func222 rfl rfl rfl rfl rfl (by exact oT rfl) ?_;simp -dsimp -implicitDefEqProofs only [go_sem];simp only [List.length_nil,List.map_nil] at eZ;refine jk 1700000000 eZ ⟨?_,?_⟩ ⟨⟨?_,?_⟩,?_,?_⟩ ?_
 . simp -dsimp -implicitDefEqProofs only [go_sem]
 . simp -dsimp -implicitDefEqProofs only [go_sem]
 . simp -dsimp -implicitDefEqProofs only [go_sem]
 . simp -dsimp -implicitDefEqProofs only [go_sem];simp [ao,aq,ck]
 . simp -dsimp -implicitDefEqProofs only [go_sem]
 . simp -dsimp -implicitDefEqProofs only [go_sem];simp
 rintro r m' ⟨hr,hm'⟩;rw [hr,hm'];simp -dsimp -implicitDefEqProofs only [go_sem]
theorem PV (m:aL) (key:lI) (h:key.length<=1048576):Fn pG 175 [ky m,aP key] true (· =if aW m=true then if fault m key=0 then .aX [eI (cF m key key.length),eI 0] else .aX [eI 0,eI 2] else .aX [eI 0,eI 1]):=by
 refine Fn.av 19 [.tmp 4,.tmp 5] func175 (hv:= ?_);have fv:=vC m key h;have h10:((1:Int) != 0)=true:=rfl;have h20:((2:Int) != 0)=true:=rfl;rcases hm:aW m with _|_
 . rw [hm] at fv;simp only [Bool.false_eq_true,if_false] at fv ⊢;clear hm;simp -dsimp -implicitDefEqProofs only [go_sem];repeat' (refine aa (fv) ?_;try simp -dsimp -implicitDefEqProofs only [go_sem, *])
 rw [hm] at fv;simp only [if_true] at fv ⊢;by_cases hf:fault m key=0
 . rw [if_pos hf] at fv ⊢;have s8:=aI hm;have h8:(8:Int)^m.ae.toNat<=8^6:=by
    have:8^m.ae.toNat<=8^6:=dD (by decide) (by omega)
    exact_mod_cast this
   have eZ:=W4 key h m hm m.ae.toNat [] ⟨0,[],0⟩ (by simp;omega) (λx hx=>by cases hx) ⟨rfl,bt _⟩ ⟨Int.le_refl _,by show (0:Int)+_<=_;omega⟩;have hsp:=(iH m (cq key) m.ae.toNat [] ⟨0,[],0⟩ ⟨rfl,bt _⟩).2.1;have XC:=hsp.trans (Dc hf).1;rw [←XC];clear hsp XC;generalize bn m (cq key) m.ae.toNat [] ⟨0,[],0⟩=w at*;simp only [List.length_nil,List.map_nil] at eZ;clear hm hf h8 s8;simp -dsimp -implicitDefEqProofs only [go_sem];repeat' (refine aa (fv) ?_;try simp -dsimp -implicitDefEqProofs only [go_sem, *])
   refine bN 900000 16 [] func222 rfl rfl rfl rfl rfl (by exact oT rfl) ?_;simp -dsimp -implicitDefEqProofs only [go_sem];refine jk 1700000000 eZ ⟨?_,?_⟩ ⟨⟨?_,?_⟩,?_,?_⟩ ?_
   . simp -dsimp -implicitDefEqProofs only [go_sem]
   . simp -dsimp -implicitDefEqProofs only [go_sem]
   . simp -dsimp -implicitDefEqProofs only [go_sem]
   . simp -dsimp -implicitDefEqProofs only [go_sem];simp [ao,aq,ck]
   . simp -dsimp -implicitDefEqProofs only [go_sem]
   . simp -dsimp -implicitDefEqProofs only [go_sem];simp
   rintro r m' ⟨hr,hm'⟩;rw [hr,hm'];simp -dsimp -implicitDefEqProofs only [go_sem]
 rw [if_neg hf] at fv ⊢;clear hm hf;simp -dsimp -implicitDefEqProofs only [go_sem];repeat' (refine aa (fv) ?_;try simp -dsimp -implicitDefEqProofs only [go_sem, *])
def cK (f:Nat->Option lI):Nat->Option lI
 |0=>none
 |d+1=>match cK f d with
  |some k=>some k
  |none=>f d
def bZ (m:aL):Nat->lI->Option lI
 |0,c=>if eP m c=true/\m.least<=(bf c c.length:Int) then some c else none
 |n+1,c=>if eP m c=true then cK (λ(d:Nat)=>bZ m n (c++[(d:Int)])) m.ak.toNat else none
theorem rf {f:Nat->Option lI} {k:lI}:∀{D:Nat},cK f D=some k->∃d,d<D/\f d=some k
 |D+1,h=>by
  simp only [cK] at h;cases hh:cK f D with
  |some k'=>
   rw [hh] at h;obtain ⟨d,h1,h2⟩:=rf hh;exact ⟨d,by omega,h2.trans h⟩
  |none=>rw [hh] at h;exact ⟨D,by omega,h⟩
theorem vE {f:Nat->Option lI} {D:Nat} (h:cK f D=none):cK f (D+1)=f D:=by simp [cK,h]
theorem pa {f:Nat->Option lI} {D:Nat} {k:lI} (h:cK f D=some k):∀E,D<=E->cK f E=some k
 |0,hE=>by rw [show D=0 by omega] at h;cases h
 |E+1,hE=>by
  by_cases e:D=E+1
  . rw [←e];exact h
  simp only [cK];rw [pa h E (by omega)]
def Ms (o:Option lI):AV:=match o with
 |some k=>.aX [aP k,eB true]
 |none=>.aX [.val (.slice none 0 0),eB false]
def rh (m:aL) (n:Nat) (c:lI) (r:AV):Prop:=match bZ m n c with
 |some k=>r= .aX [aP k,eB true]
 |none=>∃x,r= .aX [x,eB false]/\(x= .val (.slice none 0 0)\/x=aP c)
theorem rk (m:aL) (hm:aW m=true):∀(n:Nat) (c:lI),(c.length:Int)+n=m.ae->(∀x∈c,0<=x/\x<=7)->Fn pG 87 [ky m,aP c] false (rh m n c):=by
 intro n;have ⟨⟨zu,zv⟩,hd1,hd2⟩:=aI hm;induction n with
 |zero=>
  intro c hl hc;refine Fn.bY 42 [.tmp 4,.tmp 5] func87 (hv:= ?_);have hbe:=lT m c hm (by omega) hc;have hk:((c.length:Int)==m.ae)=true:=beq_iff_eq.2 (by omega);have hki:=qX c (by omega);unfold rh;rcases hb:eP m c with _|_
  . have ju:bZ m 0 c=none:=(by rw [bZ,if_neg (by rw [hb];exact λh=>by cases h.1)]);rw [hb] at hbe;rw [ju];clear ju hb;simp -dsimp -implicitDefEqProofs only [go_sem];(refine aa (hbe) ?_;try simp -dsimp -implicitDefEqProofs only [go_sem, *]);exact ⟨_,rfl,.inl rfl⟩
  rw [hb] at hbe;rcases hq:decide ((bf c c.length:Int)≥m.least) with _|_
  . have ju:bZ m 0 c=none:=(by rw [bZ,if_neg (λh=>by have:=of_decide_eq_false hq;omega)]);rw [ju];clear ju hb;simp -dsimp -implicitDefEqProofs only [go_sem];(refine aa (hbe) ?_;try simp -dsimp -implicitDefEqProofs only [go_sem, *]);refine aj.draw mixed rfl ?_;simp -dsimp -implicitDefEqProofs only [go_sem];(refine an (hki) ?_;try simp -dsimp -implicitDefEqProofs only [go_sem, *]);exact ⟨by exact rfl,_,rfl,.inr rfl⟩
  have ju:bZ m 0 c=some c:=by rw [bZ,if_pos ⟨hb,by have:=oT hq;omega⟩]
  rw [ju];clear ju hb;simp -dsimp -implicitDefEqProofs only [go_sem];(refine aa (hbe) ?_;try simp -dsimp -implicitDefEqProofs only [go_sem, *]);refine aj.draw mixed rfl ?_;simp -dsimp -implicitDefEqProofs only [go_sem];(refine an (hki) ?_;try simp -dsimp -implicitDefEqProofs only [go_sem, *]);exact rfl
 |succ n ih=>
  intro c hl hc;refine Fn.bY 42 [.tmp 4,.tmp 5] func87 (hv:= ?_);have hbe:=lT m c hm (by omega) hc;have hk:((c.length:Int)==m.ae)=false:=beq_eq_false_iff_ne.2 (by omega);unfold rh;rcases hb:eP m c with _|_
  . have ju:bZ m (n+1) c=none:=(by rw [bZ,if_neg (by rw [hb];exact λh=>by cases h)]);rw [hb] at hbe;rw [ju];clear ju hb;simp -dsimp -implicitDefEqProofs only [go_sem];(refine aa (hbe) ?_;try simp -dsimp -implicitDefEqProofs only [go_sem, *]);exact ⟨_,rfl,.inl rfl⟩
  have ju:bZ m (n+1) c=cK (λ(d:Nat)=>bZ m n (c++[(d:Int)])) m.ak.toNat:=by rw [bZ,if_pos hb]
  rw [hb] at hbe;rw [ju];clear ju hb;have a_:=sK c (by omega);simp -dsimp -implicitDefEqProofs only [go_sem];(refine aa (hbe) ?_;try simp -dsimp -implicitDefEqProofs only [go_sem, *]);refine aj.up [1,2] [33,35,36,37] [] m.ak.toNat (λi=>cK (λ(d:Nat)=>bZ m n (c++[(d:Int)])) i=none) (λi=>[(6,eI i)]) (λ_=>[]) rfl ?_ rfl (λi hi hI=> ?_) (λhI=> ?_)
  . simp -dsimp -implicitDefEqProofs only [go_sem]
  . have hih:=ih (c++[(i:Int)]) (by simp;omega) (λx hx=>by
     rcases bj.1 hx with h|h
     . exact hc x h
     simp at h;omega)
    have hlt:decide ((i:Int)<m.ak)=true:=dT (by omega);have ou:uq8 eI c++[eI (i:Int)]=uq8 eI (c++[(i:Int)]):=(by simp);have htk:cP c.length (uq8 eI c)=uq8 eI c:=cQ (by simp);have htl:cP (c.length+1) (uq8 eI (c++[(i:Int)]))=uq8 eI (c++[(i:Int)]):=cQ (by simp);have hnx:=vE hI;have fS:∀k,bZ m n (c++[(i:Int)])=some k->cK (λ(d:Nat)=>bZ m n (c++[(d:Int)])) m.ak.toNat=some k:=λk hk=>pa (hnx.trans hk) _ (by omega);rw [hnx];clear ih hI hnx;unfold rh at hih;generalize bZ m n (c++[(i:Int)])=F at*;simp -dsimp -implicitDefEqProofs only [go_sem,hlt];refine aj.Y0 6 mixed rfl ?_;simp -dsimp -implicitDefEqProofs only [gW,db,uq2,uq3];simp -dsimp -implicitDefEqProofs only [go_sem];(refine an (a_) ?_;try simp -dsimp -implicitDefEqProofs only [go_sem, *]);refine ⟨by omega,?_⟩;refine ⟨by exact rfl,?_⟩;refine jl 34000 1 ⟨1,false⟩ true (uq8 eI (c++[(i:Int)])) hih (by decide) ?_ ?_ λr hr=> ?_
    . simp -dsimp -implicitDefEqProofs only [go_sem]
    . refine oZ ?_ rfl ?_
      . simp -dsimp -implicitDefEqProofs only [go_sem]
      have h:=kx (l:=34000) (v:=1) (sh:=⟨1,false⟩) (ys:=uq8 eI (c++[(i:Int)])) (xs:=[]) (r:=[]) 0 (c.length+1) (by simp) trivial;rw [uq3,htl] at h;exact h
    cases F with
    |some k=>
     rw [fS k rfl];rw [show r= .aX [aP k,eB true] from hr];clear hr fS;simp -dsimp -implicitDefEqProofs only [go_sem];exact rfl
    |none=>
     clear fS;obtain ⟨x,rfl,hx⟩:=hr;rcases hx with rfl|rfl
     . simp -dsimp -implicitDefEqProofs only [go_sem];exact ⟨by exact rfl,⟨by omega,by omega⟩,by simp⟩
     simp -dsimp -implicitDefEqProofs only [go_sem];exact ⟨by exact rfl,⟨by omega,by omega⟩,by simp⟩
  have hlt:decide (((m.ak.toNat:Nat):Int)<m.ak)=false:=dF (by omega);rw [hI];clear hI;simp -dsimp -implicitDefEqProofs only [go_sem,hlt];exact ⟨_,rfl,.inl rfl⟩
def du (m:aL) (c:lI):Nat->Option lI
 |0=>none
 |j+1=>match du m c j with
  |some k=>some k
  |none=>cK (λ(e:Nat)=>bZ m j (c.take (c.length-1-j)++[c.getD (c.length-1-j) 0+1+(e:Int)])) (m.ak-(c.getD (c.length-1-j) 0+1)).toNat
theorem vF {m:aL} {c:lI} {j:Nat} (h:du m c j=none):du m c (j+1)=cK (λ(e:Nat)=>bZ m j (c.take (c.length-1-j)++[c.getD (c.length-1-j) 0+1+(e:Int)])) (m.ak-(c.getD (c.length-1-j) 0+1)).toNat:=by simp [du,h]
theorem pc {m:aL} {c k:lI} {j:Nat} (h:du m c j=some k):∀E,j<=E->du m c E=some k
 |0,hE=>by rw [show j=0 by omega] at h;cases h
 |E+1,hE=>by
  by_cases e:j=E+1
  . rw [←e];exact h
  simp only [du];rw [pc h E (by omega)]
theorem pX (m:aL) (c:lI) (hm:aW m=true) (hl:(c.length:Int)=m.ae) (hc:∀x∈c,0<=x/\x<m.ak):Fn pG 86 [ky m,aP c] false (· =Ms (du m c c.length)):=by
 have ⟨⟨zu,zv⟩,hd1,hd2⟩:=aI hm;refine Fn.bY 42 [.tmp 4,.tmp 5] func86 (hv:= ?_);simp -dsimp -implicitDefEqProofs only [go_sem];refine ⟨⟨by omega,by omega⟩,?_⟩;refine aj.up [1,2] [33,35,36,37] [] c.length (λj=>du m c j=none) (λj=>[(6,eI ((c.length:Int)-1-(j:Int)))]) (λ_=>[]) rfl ?_ rfl (λj hj hJ=> ?_) (λhJ=> ?_)
 . simp -dsimp -implicitDefEqProofs only [go_sem];all_goals first|(simp;done)|skip
 . have hlt:decide ((c.length:Int)-1-(j:Int)≥0)=true:=dT (by omega);have hnx:=vF hJ;have fS:∀k,du m c (j+1)=some k->du m c c.length=some k:=λk hk=>pc hk _ (by omega);have hi:c.length-1-j<c.length:=(by omega);have QS:(c.length:Int)-1-(j:Int)=((c.length-1-j:Nat):Int):=(by omega);have hx:=hc c[c.length-1-j] (uq6 hi);have hgd:c.getD (c.length-1-j) 0=c[c.length-1-j]:=(by simp [uq4,hi]);have gi:=get_some hi;have XD:(c.length:Int)-1-((j+1:Nat):Int)=((c.length-1-j:Nat):Int)-1:=(by omega);rw [hgd] at hnx;rw [QS] at hlt;rw [QS,XD];clear hJ QS hgd XD;generalize hI:c.length-1-j=i at*;generalize c[i]=z at*;rw [hnx];have Ue:∀k,cK (λ(e:Nat)=>bZ m j (c.take i++[z+1+(e:Int)])) (m.ak-(z+1)).toNat=some k->du m c c.length=some k:=λk hk=>fS k (hnx.trans hk);clear hnx fS;simp -dsimp -implicitDefEqProofs only [go_sem,hlt,gi];refine ⟨by omega,⟨by omega,by omega⟩,?_⟩;refine aj.up [1,2,6] [33,35,36,37] [] (m.ak-(z+1)).toNat (λe=>cK (λ(e:Nat)=>bZ m j (c.take i++[z+1+(e:Int)])) e=none) (λe=>[(7,eI (z+1+(e:Int)))]) (λ_=>[]) rfl ?_ rfl (λe he hE=> ?_) (λhE=> ?_)
   . simp -dsimp -implicitDefEqProofs only [go_sem];all_goals first|(simp;done)|skip
   . have QT:decide (z+1+(e:Int)<m.ak)=true:=dT (by omega);have Y6:(c.take i).length=i:=(by simp;omega)
     have hih:=rk m hm j (c.take i++[z+1+(e:Int)]) (by simp;omega) (λx hx2=>by
      rcases bj.1 hx2 with h|h
      . have:=hc x (List.mem_of_mem_take h);omega
      simp at h;omega)
     have a_:=sK (c.take i) (by omega);have htk:cP i (uq8 eI c)=uq8 eI (c.take i):=uq9.symm;have hnx:=vE hE;have QU:∀k,bZ m j (c.take i++[z+1+(e:Int)])=some k->du m c c.length=some k:=λk hk=>Ue k (pa (hnx.trans hk) _ (by omega));rw [hnx];clear hE hnx Ue hc;unfold rh at hih;generalize c.take i=T at*;have ou:uq8 eI T++[eI (z+1+(e:Int))]=uq8 eI (T++[z+1+(e:Int)]):=(by simp);have htl:cP (i+1) (uq8 eI (T++[z+1+(e:Int)]))=uq8 eI (T++[z+1+(e:Int)]):=cQ (by simp;omega);have YO:cP i (uq8 eI T)=uq8 eI T:=cQ (by simp;omega);generalize bZ m j (T++[z+1+(e:Int)])=F at*;simp -dsimp -implicitDefEqProofs only [go_sem,QT];refine aj.Y0 8 mixed rfl ?_;simp -dsimp -implicitDefEqProofs only [gW,db,uq2,uq3];simp -dsimp -implicitDefEqProofs only [go_sem,htk];refine ⟨by omega,?_⟩;(refine an (a_) ?_;try simp -dsimp -implicitDefEqProofs only [go_sem, *]);refine ⟨by omega,?_⟩;refine ⟨by exact rfl,?_⟩;refine jl 34000 1 ⟨1,false⟩ true (uq8 eI (T++[z+1+(e:Int)])) hih (by decide) ?_ ?_ λr hr=> ?_
     . simp -dsimp -implicitDefEqProofs only [go_sem]
     . refine oZ ?_ rfl ?_
       . simp -dsimp -implicitDefEqProofs only [go_sem]
       have h:=kx (l:=34000) (v:=1) (sh:=⟨1,false⟩) (ys:=uq8 eI (T++[z+1+(e:Int)])) (xs:=[]) (r:=[]) 0 (i+1) (by simp;omega) trivial;rw [uq3,htl] at h;exact h
     cases F with
     |some k=>
      rw [QU k rfl];rw [show r= .aX [aP k,eB true] from hr];clear hr QU;simp -dsimp -implicitDefEqProofs only [go_sem,Ms];exact rfl
     |none=>
      clear QU;obtain ⟨x,rfl,hx⟩:=hr;rcases hx with rfl|rfl
      . simp -dsimp -implicitDefEqProofs only [go_sem];exact ⟨by exact rfl,⟨by omega,by omega⟩,by simp;omega⟩
      simp -dsimp -implicitDefEqProofs only [go_sem];exact ⟨by exact rfl,⟨by omega,by omega⟩,by simp;omega⟩
   have QT:decide (z+1+(((m.ak-(z+1)).toNat:Nat):Int)<m.ak)=false:=dF (by omega);rw [hE];simp -dsimp -implicitDefEqProofs only [go_sem,QT];(exact ⟨by omega,by omega⟩)
 have hlt:decide ((c.length:Int)-1-(c.length:Int)≥0)=false:=dF (by omega);rw [hJ];clear hJ;simp -dsimp -implicitDefEqProofs only [go_sem,hlt,Ms]
theorem yQ {f:Nat->Option lI} {d:Nat} (h:f d≠none):∀D,d<D->cK f D≠none
 |0,hd=>absurd hd (Nat.not_lt_zero _)
 |D+1,hd=>by
  simp only [cK];cases hh:cK f D with
  |some k=>exact λh=>by cases h
  |none=>
   by_cases e:d=D
   . subst e;exact h
   exact absurd hh (yQ h D (by omega))
theorem yR {m:aL}:∀(n:Nat) (c t:lI),t.length=n->eP m (c++t)=true->m.least<=(bf (c++t) (c++t).length:Int)->(∀x∈t,0<=x/\x<m.ak)->bZ m n c≠none
 |0,c,t,hl,ho,hk,hx=>by
  obtain rfl:=List.eq_nil_of_length_eq_zero hl;rw [List.append_nil] at ho hk;rw [bZ,if_pos ⟨ho,hk⟩];exact λh=>by cases h
 |n+1,c,t,hl,ho,hk,hx=>by
  cases t with
  |nil=>cases hl
  |cons d t=>
   have hd:=hx d (dR ..);have hoc:eP m c=true:=by
    have:=nK ho (i:=c.length) (by simp)
    rwa [List.take_left'] at this
    rfl
   rw [bZ,if_pos hoc];refine yQ (d:=d.toNat) ?_ _ (by omega);have e:((d.toNat:Nat):Int)=d:=(by omega);rw [e];have e2:c++d::t=(c++[d])++t:=(by simp);rw [e2] at ho hk;exact yR n (c++[d]) t (by simpa using hl) ho hk λx hx2=>hx x (List.mem_cons_of_mem _ hx2)
theorem rm {m:aL}:∀(n:Nat) (c k:lI),bZ m n c=some k->k.length=c.length+n/\eP m k=true/\(m.least<=(bf k k.length:Int))/\((∀x∈c,0<=x/\x<m.ak)->∀x∈k,0<=x/\x<m.ak)
 |0,c,k,h=>by
  rw [bZ] at h;split at h
  . rename_i hc;injection h with h
    subst h;exact ⟨rfl,hc.1,hc.2,λh=>h⟩
  cases h
 |n+1,c,k,h=>by
  rw [bZ] at h;split at h
  . obtain ⟨d,h1,h2⟩:=rf h;obtain ⟨g1,g2,g3,g4⟩:=rm n _ k h2;refine ⟨by rw [g1];simp;omega,g2,g3,λhc=>g4 λx hx=> ?_⟩;rcases bj.1 hx with h|h
    . exact hc x h
    simp at h;omega
  cases h
def IB (ch dp:Int):lI:=(([0,1,2,3,4,5]:lI).map λx=>if x<dp then x else if (x-dp).tmod 2=0 then dp-2 else dp-1).take ch.toNat
def W5 (C D:Int):Bool:=
 (IB C D).length==C.toNat&&(bd (IB C D).length).all (λi=>decide (aZ (IB C D) i<=1)&&(i==0||decide (fj ((IB C D).getD i 0-(IB C D).getD (i-1) 0)<=1)))&&
   decide ((if D<C then D else C)<=(bf (IB C D) (IB C D).length:Int))&&(IB C D).all λx=>decide (0<=x)&&decide (x<D)
theorem PW:((bd 5).all λc=>(bd 7).all λd=>W5 ((c:Int)+2) ((d:Int)+2))=true:=by decide+kernel
theorem Vu {m:aL} (hm:aW m=true):(IB m.ae m.ak).length=m.ae.toNat/\eP m (IB m.ae m.ak)=true/\m.least<=(bf (IB m.ae m.ak) (IB m.ae m.ak).length:Int)/\∀x∈IB m.ae m.ak,0<=x/\x<m.ak:=by
 have s8:=aI hm;have hs:=mR hm;have hl:m.least<=if m.ak<m.ae then m.ak else m.ae:=by simp only [aW,bx,uq0,decide_eq_true_eq] at hm;exact hm.2.2
 have h1:=uq1.1 PW (m.ae.toNat-2) (b6.2 (by omega));have h2:=uq1.1 h1 (m.ak.toNat-2) (b6.2 (by omega));rw [show ((m.ae.toNat-2:Nat):Int)+2=m.ae by omega,show ((m.ak.toNat-2:Nat):Int)+2=m.ak by omega] at h2;unfold W5 at h2;simp only [uq0,beq_iff_eq,decide_eq_true_eq] at h2;obtain ⟨⟨⟨g1,g2⟩,g3⟩,g4⟩:=h2;generalize IB m.ae m.ak=z at*;refine ⟨g1,?_,by omega,λx hx=> ?_⟩
 . unfold eP;rw [uq1] at g2 ⊢;intro i hi;have:=g2 i hi;simp only [uq0,decide_eq_true_eq,Bool.or_eq_true,beq_iff_eq] at this ⊢;refine ⟨by omega,?_⟩;unfold cw;rcases this.2 with h|h
   . simp [h]
   rw [decide_eq_true (show fj (z.getD i 0-z.getD (i-1) 0)<=m.step by omega)];simp
 have:=uq1.1 g4 x hx;simpa using this
theorem pd {m:aL} (hm:aW m=true):∃k,bZ m m.ae.toNat []=some k:=by
 obtain ⟨h1,h2,h3,h4⟩:=Vu hm;have:=yR m.ae.toNat [] (IB m.ae m.ak) h1 h2 h3 h4;cases hh:bZ m m.ae.toNat [] with
 |some k=>exact ⟨k,rfl⟩
 |none=>exact absurd hh this
theorem yS {m:aL} {c k:lI} (hl:(c.length:Int)=m.ae) (hc:∀x∈c,0<=x/\x<m.ak):∀j,j<=c.length->du m c j=some k->k.length=c.length/\eP m k=true/\m.least<=(bf k k.length:Int)/\∀x∈k,0<=x/\x<m.ak
 |0,_,h=>by cases h
 |j+1,hj,h=>by
  cases hh:du m c j with
  |some k'=>
   rw [pc hh (j+1) (by omega)] at h;injection h with h
   subst h;exact yS hl hc j (by omega) hh
  |none=>
   rw [vF hh] at h;obtain ⟨e,h1,h2⟩:=rf h;obtain ⟨g1,g2,g3,g4⟩:=rm j _ k h2;have hi:c.length-1-j<c.length:=(by omega);have hx:=hc c[c.length-1-j] (uq6 hi);have hgd:c.getD (c.length-1-j) 0=c[c.length-1-j]:=(by simp [uq4,hi]);rw [hgd] at h1 g1 g4;refine ⟨by rw [g1];simp;omega,g2,g3,g4 λx hx2=> ?_⟩;rcases bj.1 hx2 with h|h
   . exact hc x (List.mem_of_mem_take h)
   simp at h;omega
def bJ (bs:lU) (D:Int) (s:Src):Nat->lI × Src
 |0=>([],s)
 |i+1=>((bJ bs D s i).1++[(nx bs D (bJ bs D s i).2).1],(nx bs D (bJ bs D s i).2).2)
theorem mS {bs:lU} {D:Int} {s:Src} (h:gq s) (hD:2<=D):∀i,gq (bJ bs D s i).2/\(bJ bs D s i).1.length=i/\∀x∈(bJ bs D s i).1,0<=x/\x<D
 |0=>⟨h,rfl,λx hx=>by cases hx⟩
 |i+1=>by
  obtain ⟨h1,h2,h3⟩:=mS h hD i (bs:=bs);have hn:=fh bs D h1;refine ⟨hn.2.2.2,by simp [bJ,h2],λx hx=> ?_⟩;simp only [bJ] at hx;rcases bj.1 hx with h|h
  . exact h3 x h
  simp at h;rw [h];exact ⟨hn.1,hn.2.2.1 (by omega)⟩
def n_ (m:aL) (c:lI):lI:=match du m c c.length with
 |some k=>k
 |none=>(bZ m m.ae.toNat []).getD []
theorem FX {m:aL} {c:lI} (hm:aW m=true) (hl:(c.length:Int)=m.ae) (hc:∀x∈c,0<=x/\x<m.ak):
 ((n_ m c).length:Int)=m.ae/\eP m (n_ m c)=true/\m.least<=(bf (n_ m c) (n_ m c).length:Int)/\∀x∈n_ m c,0<=x/\x<m.ak:=by
 have s8:=aI hm;unfold n_;cases h:du m c c.length with
 |some k=>
  obtain ⟨g1,g2,g3,g4⟩:=yS hl hc c.length (bt _) h;exact ⟨by simp only;omega,g2,g3,g4⟩
 |none=>
  obtain ⟨k,hk⟩:=pd hm;obtain ⟨g1,g2,g3,g4⟩:=rm _ _ _ hk;simp only [hk,Option.getD_some];exact ⟨by simp at g1;omega,g2,g3,g4 λx hx=>by cases hx⟩
theorem B0 (v:Nat) (bs:lU) (s:Src) (m:aL) (h:gq s) (hm:aW m=true) (hl:bs.length<=4096):
 mb pG 67 [mH v bs s] [.ptr 1000000000 v 0 0,ky m] (λx io=>x=aP (n_ m (bJ bs m.ak s m.ae.toNat).1)/\io=[mH v bs (bJ bs m.ak s m.ae.toNat).2]):=by
 refine mb.cW 37 [.tmp 4] func67 (hv:= ?_);have ⟨⟨zu,zv⟩,hd1,hd2⟩:=aI hm;have hct:=λi=>mS (bs:=bs) (D:=m.ak) h hd1 i;simp -dsimp -implicitDefEqProofs only [go_sem];refine aj.up [0,3] [20,21,22] [9,1000000000] m.ae.toNat (λ_=>True) (λi=>[(6,eI i),(5,.ref 9 0 0 (bJ bs m.ak s i).1.length)]) (λi=>[(9,.row 0 ⟨1,false⟩ true ((bJ bs m.ak s i).1.map eI)),(1000000000,mH v bs (bJ bs m.ak s i).2)]) trivial ?_ rfl (λi hi _=> ?_) (λ_=> ?_)
 . simp -dsimp -implicitDefEqProofs only [go_sem];try simp [bJ]
 . have hlt:decide ((i:Int)<m.ae)=true:=dT (by omega);obtain ⟨h1,h2,h3⟩:=hct i;have hn:=fh bs m.ak h1;have q:=λv=>bU v bs m.ak _ h1 hl;have GW:bJ bs m.ak s (i+1)=((bJ bs m.ak s i).1++[(nx bs m.ak (bJ bs m.ak s i).2).1],(nx bs m.ak (bJ bs m.ak s i).2).2):=rfl;rw [GW];clear GW hct;generalize nx bs m.ak (bJ bs m.ak s i).2=a at*;generalize bJ bs m.ak s i=p at*;have htk:cP p.1.length (uq8 eI p.1)=uq8 eI p.1:=cQ (by simp);simp -dsimp -implicitDefEqProofs only [go_sem,hlt];(refine aU [1000000000] ?_;simp -dsimp -implicitDefEqProofs only [go_sem];refine aO (q _) ?_;simp -dsimp -implicitDefEqProofs only [go_sem]);exact ⟨by omega,⟨by omega,by omega⟩,by simp,by simp⟩
 have hlt:decide (((m.ae.toNat:Nat):Int)<m.ae)=false:=dF (by omega);obtain ⟨h1,h2,h3⟩:=hct m.ae.toNat;clear hct;generalize bJ bs m.ak s m.ae.toNat=p at*;have hnx:=pX m p.1 hm (by omega) h3;simp -dsimp -implicitDefEqProofs only [go_sem,hlt];refine jl 9 0 ⟨1,false⟩ true (uq8 eI p.1) hnx (by decide) ?_ ?_ λr hr=> ?_
 . simp -dsimp -implicitDefEqProofs only [go_sem]
 . refine oZ ?_ rfl ?_
   . simp -dsimp -implicitDefEqProofs only [go_sem]
   have h:=kx (l:=9) (v:=0) (sh:=⟨1,false⟩) (ys:=uq8 eI p.1) (xs:=[]) (r:=[]) 0 p.1.length (by simp) trivial;rw [uq3,cQ (by simp)] at h;exact h
 subst hr;obtain ⟨k0,hk0⟩:=pd hm;unfold n_;cases du m p.1 p.1.length with
 |some k=>
  unfold Ms;simp -dsimp -implicitDefEqProofs only [go_sem]
 |none=>
  rw [hk0];unfold Ms;have hf:=(rk m hm m.ae.toNat [] (by simp;omega) (λx hx=>by cases hx)).Mb (args':=[ky m,SR]) (.cons (.refl _) (.cons (.nil _) .nil));unfold rh at hf;rw [hk0] at hf;simp -dsimp -implicitDefEqProofs only [go_sem];refine au (r:=.aX [aP k0,eB true]) hf ?_ ?_
  . simp [ax,ao,aq,aF]
  simp -dsimp -implicitDefEqProofs only [go_sem];exact rfl
structure Zy (m:aL):Prop where
 c:0<=m.ae/\m.ae<=7
 d:0<=m.ak/\m.ak<=9
 s:0<=m.step/\m.step<=9
 a:0<=m.same/\m.same<=9
 l:0<=m.least/\m.least<=9
structure Zz where
 ab:lI
 at':Int
 src:Src
theorem nM {f g:Nat->Option lI}:∀{D:Nat},(∀d,d<D->f d=g d)->cK f D=cK g D
 |0,_=>rfl
 |D+1,h=>by simp only [cK];rw [nM (D:=D) (λd hd=>h d (by omega)),h D (by omega)]
theorem tU (F:Nat->lL):∀D,cK (λd=>(F d).head?) D=((bd D).flatMap F).head?
 |0=>rfl
 |D+1=>by rw [bm,List.flatMap_append,List.head?_append,←tU F D];simp only [cK,List.flatMap_cons,List.flatMap_nil,List.append_nil];cases cK (λd=>(F d).head?) D<;>rfl
theorem pe (m:aL):∀(n:Nat) (c:lI),bZ m n c=if eP m c=true then (a6 m n c).head? else none
 |0,c=>by
  simp only [bZ,a6];by_cases h1:eP m c=true
  . rw [if_pos h1];by_cases h2:m.least<=(bf c c.length:Int)
    . rw [if_pos ⟨h1,h2⟩,if_neg (by omega)];rfl
    rw [if_neg (λh=>h2 h.2),if_pos (by omega)];rfl
  rw [if_neg (λh=>h1 h.1),if_neg h1]
 |n+1,c=>by
  simp only [bZ];by_cases h1:eP m c=true
  . rw [if_pos h1,if_pos h1];simp only [a6];rw [←tU];refine nM λd _=> ?_;rw [pe m n,js,h1,Bool.true_and];split<;>rfl
  rw [if_neg h1,if_neg h1]
theorem gT (F:Nat->lL) (a:Nat):∀b,(bd (a+b)).flatMap F=(bd a).flatMap F++(bd b).flatMap λe=>F (a+e)
 |0=>by simp
 |b+1=>by rw [show a+(b+1)=(a+b)+1 by omega,bm,List.flatMap_append,gT F a b,bm,List.flatMap_append];simp
theorem vG {m:aL} {k:lI} (h:qy m k):∀j,j<=k.length->∃a b,a6 m j (k.take (k.length-j))=a++k::b/\du m k j=b.head?
 |0,_=>by
  obtain ⟨h1,h2,h3,h4⟩:=h;refine ⟨[],[],?_,rfl⟩;rw [Nat.sub_zero,dw,a6,if_neg h3];rfl
 |j+1,hj=>by
  obtain ⟨a,b,e1,e2⟩:=vG h j (by omega);obtain ⟨h1,h2,h3,h4⟩:=h;have hi:k.length-1-j<k.length:=by omega
  have hx:=h4 _ (uq6 hi);have hg:k.getD (k.length-1-j) 0=k[k.length-1-j]:=by simp [uq4,hi]
  have ht:=yO hi;rw [show k.length-1-j+1=k.length-j by omega,hg] at ht;have hok:=nK h2 (i:=k.length-j) (by omega);rw [ht,js] at hok;obtain ⟨mf,rE⟩:=Bool.and_eq_true_iff.1 hok
  have hnx:du m k (j+1)=match du m k j with
   |some k=>some k
   |none=>cK (λ(e:Nat)=>bZ m j (k.take (k.length-1-j)++[k[k.length-1-j]+1+(e:Int)])) (m.ak-(k[k.length-1-j]+1)).toNat:=by
   simp only [du,hg]<;>cases du m k j<;>rfl
  rw [show k.length-(j+1)=k.length-1-j by omega];generalize k[k.length-1-j]=z at*;generalize hp:k.take (k.length-1-j)=p at*;rw [ht] at e1;have hz:z=((z.toNat:Nat):Int):=by omega
  have hsp:m.ak.toNat=z.toNat+(1+(m.ak-(z+1)).toNat):=by omega
  let F:Nat->lL:=λd=>if (bH m p (d:Int)&&fZ m p (d:Int))=true then a6 m j (p++[(d:Int)]) else []
  have hF:F z.toNat=a++k::b:=by show (if (bH m p ((z.toNat:Nat):Int)&&fZ m p ((z.toNat:Nat):Int))=true then a6 m j (p++[((z.toNat:Nat):Int)]) else [])=_;rw [←hz,if_pos rE,e1]
  have hk:a6 m (j+1) p=(bd z.toNat).flatMap F++(F z.toNat++(bd (m.ak-(z+1)).toNat).flatMap λe=>F (z.toNat+(1+e))):=by show (bd m.ak.toNat).flatMap F=_;rw [hsp,gT,gT (λe=>F (z.toNat+e)) 1];simp [bm]
  refine ⟨(bd z.toNat).flatMap F++a,b++(bd (m.ak-(z+1)).toNat).flatMap λe=>F (z.toNat+(1+e)),?_,?_⟩
  . rw [hk,hF];simp
  rw [hnx,e2,List.head?_append,←tU];cases b.head? with
  |some x=>rfl
  |none=>
   show cK _ _=_;simp only [Option.none_or];refine nM λe _=> ?_;rw [pe,js,mf,Bool.true_and];have:z+1+(e:Int)=((z.toNat+(1+e):Nat):Int):=(by omega);rw [this];show _=(if (bH m p ((z.toNat+(1+e):Nat):Int)&&fZ m p ((z.toNat+(1+e):Nat):Int))=true then a6 m j (p++[((z.toNat+(1+e):Nat):Int)]) else []).head?
   split<;>rfl
theorem IC {m:aL} (hm:0<=m.ae) {a b:lL} {k:lI} (h:bu m=a++k::b):du m k k.length=b.head? :=by
 have hk:k∈bu m:=by rw [h];simp
 have hok:=kj hm hk;obtain ⟨a',b',e1,e2⟩:=vG hok k.length (bt _);rw [Nat.sub_self,db] at e1;have hl:m.ae.toNat=k.length:=by have:=hok.len;omega
 have e1':bu m=a'++k::b':=by rw [bu,hl];exact e1
 have hn:=o_ (m:=m) m.ae.toNat [];rw [show a6 m m.ae.toNat []=bu m from rfl,h] at hn;rw [h] at e1';have:a=a'/\k::b=k::b':=by
  have key:∀(a a' b b':lL),a++k::b=a'++k::b'->(a++k::b).Nodup->a=a'/\b=b':=by
   intro a;induction a with
   |nil=>
    intro a' b b' h hn;cases a' with
    |nil=>exact ⟨rfl,by simpa using h⟩
    |cons x r=>
     simp only [List.nil_append,List.cons_append,List.cons.injEq] at h;obtain ⟨rfl,h⟩:=h;simp only [List.nil_append,List.nodup_cons] at hn;exact absurd (by rw [h];simp) hn.1
   |cons x r ih=>
    intro a' b b' h hn;cases a' with
    |nil=>
     simp only [List.nil_append,List.cons_append,List.cons.injEq] at h;obtain ⟨rfl,h⟩:=h;simp only [List.cons_append,List.nodup_cons] at hn;exact absurd (by simp) hn.1
    |cons x' r'=>
     simp only [List.cons_append,List.cons.injEq] at h;obtain ⟨rfl,h⟩:=h;simp only [List.cons_append,List.nodup_cons] at hn;obtain ⟨h1,h2⟩:=ih r' b b' h hn.2;exact ⟨by rw [h1],h2⟩
  obtain ⟨h1,h2⟩:=key a a' b b' e1' hn;exact ⟨h1,by rw [h2]⟩
 rw [e2];have:=this.2;simp only [List.cons.injEq,true_and] at this;rw [this]
theorem ID (m:aL):bZ m m.ae.toNat []=(bu m).head? :=by rw [pe,if_pos (show eP m []=true from rfl)];rfl
def lW (m:aL) (t ab:lL):Bool:=((gS m t ab).length:Int)==0
def Mt (o:Option lI):AV:=match o with
 |some k=>aP k
 |none=>.val (.slice none 0 0)
theorem c_ (k:lI):Mt (some k)=aP k:=rfl
theorem fN:Mt none= .val (.slice none 0 0):=rfl
theorem Dd (o:Option lI):Ms o= .aX [Mt o,eB o.isSome]:=by cases o<;>rfl
theorem yT {m:aL} (hm:0<=m.ae) {i:Nat} {k:lI} (h:(bu m)[i]? =some k):du m k k.length=(bu m)[i+1]? :=by
 obtain ⟨hi,e⟩:=List.getElem?_eq_some_iff.1 h;have hs:bu m=(bu m).take i++k::(bu m).drop (i+1):=by rw [←e,←List.drop_eq_getElem_cons hi,List.take_append_drop]
 rw [IC hm hs,List.head?_drop]
structure SS where
 tries:Nat
 stop:Bool
 found:List lL
def DO (m:aL) (t:lL) (lim:Nat) (part:lL) (rec:lL->SS->Bool × SS):lL->SS->Bool × SS
 | [],z=>(false,z)
 |k::ks,z=>
  if ((z.tries:Int)==(lim:Int))=true then (true,⟨z.tries,true,z.found⟩)
  else if lW m t (part++[k])=true then
   (if (rec (part++[k]) ⟨z.tries+1,z.stop,z.found⟩).1=true then (true,(rec (part++[k]) ⟨z.tries+1,z.stop,z.found⟩).2)
   else DO m t lim part rec ks (rec (part++[k]) ⟨z.tries+1,z.stop,z.found⟩).2)
  else DO m t lim part rec ks ⟨z.tries+1,z.stop,z.found⟩
def dN (m:aL) (t:lL) (lim:Nat):Nat->lL->SS->Bool × SS
 |0,part,z=>(true,⟨z.tries,z.stop,[part]⟩)
 |d+1,part,z=>DO m t lim part (dN m t lim d) (bu m) z
structure Vv (m:aL) (lim n:Nat) (b:Bool) (z:SS):Prop where
 tr:z.tries<=lim
 no:b=false->z.found=[]
 one:z.found.length<=1
 fl:∀f∈z.found,f.length=n/\∀k∈f,k∈bu m
theorem IE {m:aL} {t:lL} {lim n:Nat} {part:lL} {rec:lL->SS->Bool × SS} (hp:∀k∈part,k∈bu m)
 (hr:∀k z,k∈bu m->z.tries<=lim->z.found=[]->Vv m lim n (rec (part++[k]) z).1 (rec (part++[k]) z).2):
 ∀(ks:lL) (z:SS),(∀k∈ks,k∈bu m)->z.tries<=lim->z.found=[]->Vv m lim n (DO m t lim part rec ks z).1 (DO m t lim part rec ks z).2
 | [],z,_,h1,h2=>⟨h1,λ_=>h2,by rw [DO,h2];simp,λf hf=>by rw [DO,h2] at hf;cases hf⟩
 |k::ks,z,hk,h1,h2=>by
  have hk1:=hk k (dR ..);have hk2:∀k∈ks,k∈bu m:=λx hx=>hk x (List.mem_cons_of_mem _ hx);unfold DO;split
  . exact ⟨h1,λh=>(by cases h),by simp [h2],λf hf=>by simp [h2] at hf⟩
  rename_i hne;have hne:z.tries≠lim:=λe=>hne (by rw [e];simp);split
  . have:=hr k ⟨z.tries+1,z.stop,z.found⟩ hk1 (by simp only;omega) h2;split
    . rename_i hb;rw [hb] at this;exact ⟨this.tr,λh=>(by cases h),this.one,this.fl⟩
    rename_i hb;exact IE hp hr ks _ hk2 this.tr (this.no (by simpa using hb))
  exact IE hp hr ks _ hk2 (by simp only;omega) h2
theorem kY {m:aL} {t:lL} {lim:Nat}:∀(d:Nat) (part:lL) (z:SS),(∀k∈part,k∈bu m)->z.tries<=lim->z.found=[]->Vv m lim (part.length+d) (dN m t lim d part z).1 (dN m t lim d part z).2
 |0,part,z,hp,h1,h2=>⟨h1,λh=>(by cases h),by simp [dN],λf hf=>by
   simp only [dN,bI] at hf;subst hf;exact ⟨rfl,hp⟩⟩
 |d+1,part,z,hp,h1,h2=>by
  refine IE hp (λk z hk h1 h2=> ?_) (bu m) z (λ_ h=>h) h1 h2
  have:=kY d (part++[k]) z (t:=t) (λx hx=>by
   rcases bj.1 hx with hx|hx
   . exact hp x hx
   simp at hx;subst hx;exact hk) h1 h2
  rw [uq7,List.length_singleton] at this;rw [show part.length+(d+1)=part.length+1+d by omega];exact this
theorem B1 (ab:lL) (key:lI) (h:ab.length<=1000):Fn pG 241 [aQ ab,aP key] false (· =aQ (ab++[key])):=by
 refine Fn.bY 11 [.tmp 4] func241 (hv:= ?_);have tc:(ab.map aP).take ab.length=ab.map aP:=cQ (by simp);cases ab with
 |nil=>
  simp -dsimp -implicitDefEqProofs only [go_sem];all_goals first|(simp [aP];done)|skip
 |cons c r=>
  have hf:bk ((c::r).map aP)=false:=rfl;generalize c::r=ab at*;simp -dsimp -implicitDefEqProofs only [go_sem,hf,tc];((with_reducible and_intros);all_goals try omega);all_goals first|(refine .inr ⟨by omega,?_⟩;rw [cQ (by simp)];simp [aP];done)|skip
theorem B2 (m:aL) (t ab:lL) (hm:aW m=true) (h0:ab.length<=1000) (h1:ab.length<=t.length) (h2:0<t.length) (hk:∀i (hi:i<t.length),t[i].length=(t.getD 0 []).length) (hd:(t.getD 0 []).length<=1000) (hc:∀x∈ab,(x.length:Int)=m.ae):
 Fn pG 242 [jQ m t,aQ ab] true (· =eB (lW m t ab)):=by
 have hq:=q_ m t ab hm h0 h1 h2 hk hd hc;refine Fn.av 10 [.tmp 4] func242 (hv:= ?_);unfold lW;generalize gS m t ab=F at*;simp -dsimp -implicitDefEqProofs only [go_sem];refine au (hq) (by simp [ax,ao,aq,aF]) ?_;simp -dsimp -implicitDefEqProofs only [go_sem]
theorem tV (xs:lI) (h:xs.length<=1048576):Fn pG 57 [aP xs] false (· =aP xs):=by refine Fn.bY 6 [.tmp 2] func57 (hv:= ?_);simp -dsimp -implicitDefEqProofs only [go_sem];(all_goals try omega)
theorem yU (t:lL) (h:t.length<=1000) (h2:∀x∈t,x.length<=1048576):Fn pG 31 [aQ t] false (· =aQ t):=by
 refine Fn.bY 21 [.tmp 2] func31 (hv:= ?_);simp -dsimp -implicitDefEqProofs only [go_sem];refine aj.up [0] [8,17,18,19] [5] t.length (λ_=>True) (λi=>[(4,eI i),(3,.ref 5 0 0 i)]) (λi=>[(5,.row 0 ⟨1,false⟩ (i==0) ((t.take i).map aP))]) trivial ?_ rfl (λi hi _=> ?_) (λ_=> ?_)
 . simp -dsimp -implicitDefEqProofs only [go_sem]
 . have gi:=get_some hi;have li:=aE hi;have ho:=tV t[i] (h2 _ (uq6 hi));have e2:(t.take (i+1)).map aP=(t.take i).map aP++[aP t[i]]:=(by rw [fq hi,List.map_append];rfl);have hln:(t.take i).length=i:=(by simp;omega);have e0:(i+1==0)=false:=rfl;rw [e0,e2];clear e0 e2;generalize t.take i=F at*;generalize t[i]=x at*;have tF:(F.map aP).take i=F.map aP:=cQ (by simp;omega);simp -dsimp -implicitDefEqProofs only [go_sem,gi,li];((with_reducible and_intros);all_goals try omega);refine au (ho) (by simp [ax,ao,aF]) ?_;simp -dsimp -implicitDefEqProofs only [go_sem];refine .inr ⟨by omega,by omega,(by cases i with|zero=>exact .inr rfl|succ i=>exact .inl rfl),⟨by omega,by omega⟩,?_⟩;simp -dsimp -implicitDefEqProofs only [go_sem,tF];all_goals try exact rfl
 have tt:(t.map aP).take t.length=t.map aP:=cQ (by simp);rw [dw];simp -dsimp -implicitDefEqProofs only [go_sem,ay]
def eF (fs:List lL):AV:=match fs with
 | []=>.val (.slice none 0 0)
 |f::r=>.arr ⟨1,false⟩ (aQ f::r.map aQ)
theorem cR:eF []= .val (.slice none 0 0):=rfl
theorem tW (f:lL):eF [f]= .arr ⟨1,false⟩ [aQ f]:=rfl
abbrev sB (v:Nat) (m:aL) (t:lL) (lim:Nat) (z:SS):bc:=
 .box v [eI m.ae,eI m.ak,eI m.step,eI m.same,eI m.least,aQ t,eI lim,eI 1,eI z.tries,eB z.stop,eF z.found]
structure PX (t:lL):Prop where
 n:1<=t.length/\t.length<=900
 r:∀i (hi:i<t.length),t[i].length=(t.getD 0 []).length
 d:(t.getD 0 []).length<=1000
theorem yV {m:aL} (hm:aW m=true):∃k0,(bu m)[0]? =some k0/\Fn pG 87 [ky m,SR] false (· = .aX [aP k0,eB true]):=by have ⟨⟨n1,n2⟩,n3,n4⟩:=aI hm;obtain ⟨k0,hk0⟩:=pd hm;have hf:=(rk m hm m.ae.toNat [] (by simp;omega) (λx hx=>by cases hx)).Mb (args':=[ky m,SR]) (.cons (.refl _) (.cons (.nil _) .nil));unfold rh at hf;rw [hk0] at hf;exact ⟨k0,by rw [←List.head?_eq_getElem?,←ID,hk0],hf⟩
set_option maxHeartbeats 16000000 in
theorem Mu (m:aL) (t:lL) (lim:Nat) (hm:aW m=true) (ht:PX t) (hl:lim<=4000):∀(d v:Nat) (part:lL) (z:SS),part.length+d=t.length->(∀k∈part,k∈bu m)->z.tries<=lim->z.found=[]→
 mb pG 189 [sB v m t lim z] [.ptr 1000000000 v 0 0,aQ part,.val (.slice none 0 0)] (λx io=>x=eB (dN m t lim d part z).1/\io=[sB v m t lim (dN m t lim d part z).2]):=by
 have ⟨⟨n1,n2⟩,n3,n4⟩:=aI hm;have hK:=λk (hk:k∈bu m)=>kj (m:=m) (by omega) hk;have ⟨⟨ht1,ht2⟩,ht3,ht4⟩:=ht;obtain ⟨k0,hk1,hf⟩:=yV hm;intro d;induction d with
 |zero=>
  intro v part z hd hp hz1 hz2;refine mb.cW 105 [.tmp 6] func189 (hv:= ?_);obtain ⟨tries,stop,found⟩:=z;simp only at hz1 hz2;subst hz2;have hln:((part.length:Int)==(t.length:Int))=true:=by simp;omega
  unfold dN;simp -dsimp -implicitDefEqProofs only [go_sem,cR,hln];refine .inr ?_;refine aj.U' 1000000000 v 10 26 0 0 1 ⟨1,false⟩ false _ _ (by decide) rfl rfl rfl (by simp) ?_;refine aj.draw mixed rfl ?_;simp -dsimp -implicitDefEqProofs only [go_sem];((with_reducible and_intros);all_goals try exact rfl)
 |succ d ih=>
  intro v part z hd hp hz1 hz2;refine mb.cW 105 [.tmp 6] func189 (hv:= ?_);have hln:((part.length:Int)==(t.length:Int))=false:=by simp;omega
  obtain ⟨RR,hR⟩:∃RR,dN m t lim (d+1) part z=RR:=⟨_,rfl⟩;rw [hR];unfold dN at hR;obtain ⟨tries0,stop0,found0⟩:=z;simp only at hz1 hz2;subst hz2;simp -dsimp -implicitDefEqProofs only [go_sem,hln,cR];refine au hf (by simp [ax,ao,aq,aF]) ?_;have h00:decide ((0:Int)>0)=false:=rfl;simp -dsimp -implicitDefEqProofs only [go_sem,h00];have hdr:DO m t lim part (dN m t lim d) ((bu m).drop 0) ⟨tries0,stop0,[]⟩=RR:=hR;clear hR
  refine aj.lp [0,1] [83,89,93,102] [1000000000] (λx:Nat × SS=>x.1<=(bu m).length/\x.2.tries<=lim/\x.2.found=[]/\DO m t lim part (dN m t lim d) ((bu m).drop x.1) x.2=RR) (λx=>[(8,eB ((bu m)[x.1]?).isSome),(7,Mt ((bu m)[x.1]?))])
   (λx=>[(1000000000,sB v m t lim x.2)]) (λx=>(bu m).length-x.1) (0,⟨tries0,stop0,[]⟩) ⟨Nat.zero_le _,hz1,rfl,hdr⟩ ?_ rfl (λx hx=> ?_)
  . rw [hk1];simp -dsimp -implicitDefEqProofs only [go_sem,c_,dc,cR]
  obtain ⟨i,z⟩:=x;obtain ⟨x1,x2,x3,x4⟩:=hx;obtain ⟨tries,stop,found⟩:=z;simp only at x1 x2 x3 x4 ⊢;subst x3;rcases Nat.lt_or_ge i (bu m).length with hi|hi
  . have gi:=get_some hi;have hki:=hK _ (uq6 hi);have hkm:=uq6 hi;rw [List.drop_eq_getElem_cons hi] at x4;generalize (bu m)[i]=k at*;have hnx:=pX m k hm hki.len hki.el;rw [yT (by omega) gi,Dd] at hnx;have hw:=B1 part k (by omega);have hp2:∀x∈part++[k],x∈bu m:=λx hx=>by
     rcases bj.1 hx with hx|hx
     . exact hp x hx
     simp at hx;subst hx;exact hkm
    have ho:=B2 m t (part++[k]) hm (by simp;omega) (by simp;omega) (by omega) ht3 ht4 (λx hx=>(hK x (hp2 x hx)).len);have lh:=λz=>ih v (part++[k]) z (by simp;omega) hp2;have Je:=λz h1 h2=>kY (m:=m) (t:=t) (lim:=lim) d (part++[k]) z hp2 h1 h2;unfold DO at x4;rw [gi];generalize hO:(bu m)[i+1]? =o at*;generalize lW m t (part++[k])=b at*;clear hK ih;cases htl:((tries:Int)==(lim:Int)) with
    |true=>
     rw [htl,if_pos rfl] at x4;subst x4;simp -dsimp -implicitDefEqProofs only [go_sem,c_,dc];refine aj.draw mixed rfl ?_;simp -dsimp -implicitDefEqProofs only [go_sem,htl];((with_reducible and_intros);all_goals try exact rfl)
    |false=>
     have YP:tries≠lim:=λe=>by rw [e] at htl;simp at htl
     rw [htl,if_neg (by simp)] at x4;simp -dsimp -implicitDefEqProofs only [go_sem,c_,dc];refine aj.draw mixed rfl ?_;simp -dsimp -implicitDefEqProofs only [go_sem,htl];((with_reducible and_intros);all_goals try first|(refine ⟨?_,?_⟩<;>omega)|exact rfl);refine au hw (by simp [ax,ao,aF]) ?_;simp -dsimp -implicitDefEqProofs only [go_sem];refine aa ho ?_;cases b with
     |true=>
      rw [if_pos rfl] at x4;have lh:=lh ⟨tries+1,stop,[]⟩ (by simp only;omega) rfl;have Je:=Je ⟨tries+1,stop,[]⟩ (by simp only;omega) rfl;generalize dN m t lim d (part++[k]) ⟨tries+1,stop,[]⟩=F at*;obtain ⟨bb,tr,st,fd⟩:=F;obtain ⟨g1,g2,g3,g4⟩:=Je;simp only at g1 g2 g3 x4;cases bb with
      |true=>
       rw [if_pos rfl] at x4;subst x4;simp -dsimp -implicitDefEqProofs only [go_sem];refine dr [1000000000] ?_;cases fd with
       |nil=>
        simp -dsimp -implicitDefEqProofs only [go_sem,cR];refine cg lh ?_;rintro _ _ ⟨rfl,rfl⟩;simp -dsimp -implicitDefEqProofs only [go_sem,cR];all_goals try exact rfl
       |cons f r=>
        obtain rfl:r=[]:=by cases r with|nil=>rfl|cons=>simp at g3
        simp -dsimp -implicitDefEqProofs only [go_sem,cR];refine cg lh ?_;rintro _ _ ⟨rfl,rfl⟩;simp -dsimp -implicitDefEqProofs only [go_sem,tW];all_goals try exact rfl
      |false=>
       rw [if_neg (by simp)] at x4;obtain rfl:=g2 rfl;simp -dsimp -implicitDefEqProofs only [go_sem];refine dr [1000000000] ?_;simp -dsimp -implicitDefEqProofs only [go_sem,cR];refine cg lh ?_;rintro _ _ ⟨rfl,rfl⟩;simp -dsimp -implicitDefEqProofs only [go_sem,cR];refine au hnx (by simp [ax,ao,aq,aF]) ?_;cases o with
       |some k2=>
        simp -dsimp -implicitDefEqProofs only [go_sem];refine ⟨(i+1,⟨tr,st,[]⟩),⟨by omega,g1,rfl,x4⟩,by simp only;omega,?_⟩;rw [hO];simp -dsimp -implicitDefEqProofs only [go_sem,c_,dc,cR]
       |none=>
        simp -dsimp -implicitDefEqProofs only [go_sem];refine ⟨(i+1,⟨tr,st,[]⟩),⟨by omega,g1,rfl,x4⟩,by simp only;omega,?_⟩;rw [hO];simp -dsimp -implicitDefEqProofs only [go_sem,fN,Option.isSome_none,cR]
     |false=>
      rw [if_neg (by simp)] at x4;simp -dsimp -implicitDefEqProofs only [go_sem];refine au hnx (by simp [ax,ao,aq,aF]) ?_;cases o with
      |some k2=>
       simp -dsimp -implicitDefEqProofs only [go_sem];refine ⟨(i+1,⟨tries+1,stop,[]⟩),⟨by omega,by simp only;omega,rfl,x4⟩,by simp only;omega,?_⟩;rw [hO];simp -dsimp -implicitDefEqProofs only [go_sem,c_,dc,cR];all_goals try exact rfl
      |none=>
       simp -dsimp -implicitDefEqProofs only [go_sem];refine ⟨(i+1,⟨tries+1,stop,[]⟩),⟨by omega,by simp only;omega,rfl,x4⟩,by simp only;omega,?_⟩;rw [hO];simp -dsimp -implicitDefEqProofs only [go_sem,fN,Option.isSome_none,cR];all_goals try exact rfl
  have gn:(bu m)[i]? =none:=List.getElem?_eq_none hi;rw [List.drop_of_length_le hi,DO] at x4;subst x4;rw [gn];simp -dsimp -implicitDefEqProofs only [go_sem,fN,Option.isSome_none,cR];all_goals try exact rfl
set_option maxHeartbeats 16000000 in
theorem IF (m:aL) (t:lL) (lim:Nat) (hm:aW m=true) (ht:PX t) (hl:lim<=4000) (d v:Nat) (z:SS) (hd0:d+1=t.length) (hz1:z.tries<=lim) (hz2:z.found=[]):
 mb pG 189 [sB v m t lim z] [.ptr 1000000000 v 0 0,.val (.slice none 0 0),.val (.slice none 0 0)] (λx io=>x=eB (dN m t lim (d+1) [] z).1/\io=[sB v m t lim (dN m t lim (d+1) [] z).2]):=by
 have ⟨⟨n1,n2⟩,n3,n4⟩:=aI hm;have hK:=λk (hk:k∈bu m)=>kj (m:=m) (by omega) hk;have ⟨⟨ht1,ht2⟩,ht3,ht4⟩:=ht;obtain ⟨k0,hk1,hf⟩:=yV hm;refine mb.cW 105 [.tmp 6] func189 (hv:= ?_);have hln:((0:Int)==(t.length:Int))=false:=by simp;omega
 have hd:([]:lL).length+(d+1)=t.length:=by simp;omega
 have hp:∀k∈([]:lL),k∈bu m:=λk h=>by cases h
 obtain ⟨RR,hR⟩:∃RR,dN m t lim (d+1) [] z=RR:=⟨_,rfl⟩;rw [hR];unfold dN at hR;obtain ⟨tries0,stop0,found0⟩:=z;simp only at hz1 hz2;subst hz2;simp -dsimp -implicitDefEqProofs only [go_sem,hln,cR];refine au hf (by simp [ax,ao,aq,aF]) ?_;have h00:decide ((0:Int)>0)=false:=rfl;simp -dsimp -implicitDefEqProofs only [go_sem,h00];have hdr:DO m t lim [] (dN m t lim d) ((bu m).drop 0) ⟨tries0,stop0,[]⟩=RR:=hR;clear hR
 refine aj.lp [0,1] [83,89,93,102] [1000000000] (λx:Nat × SS=>x.1<=(bu m).length/\x.2.tries<=lim/\x.2.found=[]/\DO m t lim [] (dN m t lim d) ((bu m).drop x.1) x.2=RR) (λx=>[(8,eB ((bu m)[x.1]?).isSome),(7,Mt ((bu m)[x.1]?))])
  (λx=>[(1000000000,sB v m t lim x.2)]) (λx=>(bu m).length-x.1) (0,⟨tries0,stop0,[]⟩) ⟨Nat.zero_le _,hz1,rfl,hdr⟩ ?_ rfl (λx hx=> ?_)
 . rw [hk1];simp -dsimp -implicitDefEqProofs only [go_sem,c_,dc,cR]
 obtain ⟨i,z⟩:=x;obtain ⟨x1,x2,x3,x4⟩:=hx;obtain ⟨tries,stop,found⟩:=z;simp only at x1 x2 x3 x4 ⊢;subst x3;rcases Nat.lt_or_ge i (bu m).length with hi|hi
 . have gi:=get_some hi;have hki:=hK _ (uq6 hi);have hkm:=uq6 hi;rw [List.drop_eq_getElem_cons hi] at x4;generalize (bu m)[i]=k at*;have hnx:=pX m k hm hki.len hki.el;rw [yT (by omega) gi,Dd] at hnx;have hw:=(B1 [] k (by simp)).Mb (args':=[.val (.slice none 0 0),aP k]) (.cons (.nil _) (.cons (.refl _) .nil));have hp2:∀x∈[]++[k],x∈bu m:=λx hx=>by
    rcases bj.1 hx with hx|hx
    . exact hp x hx
    simp at hx;subst hx;exact hkm
   have ho:=B2 m t ([]++[k]) hm (by simp) (by simp only [List.nil_append,List.length_singleton];omega) (by omega) ht3 ht4 (λx hx=>(hK x (hp2 x hx)).len);have lh:=λz=>Mu m t lim hm ht hl d v ([]++[k]) z (by simp only [List.nil_append,List.length_singleton];omega) hp2;have Je:=λz h1 h2=>kY (m:=m) (t:=t) (lim:=lim) d ([]++[k]) z hp2 h1 h2;unfold DO at x4;rw [gi];generalize hO:(bu m)[i+1]? =o at*;generalize lW m t ([]++[k])=b at*;clear hK;cases htl:((tries:Int)==(lim:Int)) with
   |true=>
    rw [htl,if_pos rfl] at x4;subst x4;simp -dsimp -implicitDefEqProofs only [go_sem,c_,dc];refine aj.draw mixed rfl ?_;simp -dsimp -implicitDefEqProofs only [go_sem,htl];((with_reducible and_intros);all_goals try exact rfl)
   |false=>
    have YP:tries≠lim:=λe=>by rw [e] at htl;simp at htl
    rw [htl,if_neg (by simp)] at x4;simp -dsimp -implicitDefEqProofs only [go_sem,c_,dc];refine aj.draw mixed rfl ?_;simp -dsimp -implicitDefEqProofs only [go_sem,htl];((with_reducible and_intros);all_goals try first|(refine ⟨?_,?_⟩<;>omega)|exact rfl);refine au hw (by simp [ax,ao,aF]) ?_;simp -dsimp -implicitDefEqProofs only [go_sem];refine aa ho ?_;cases b with
    |true=>
     rw [if_pos rfl] at x4;have lh:=lh ⟨tries+1,stop,[]⟩ (by simp only;omega) rfl;have Je:=Je ⟨tries+1,stop,[]⟩ (by simp only;omega) rfl;generalize dN m t lim d ([]++[k]) ⟨tries+1,stop,[]⟩=F at*;obtain ⟨bb,tr,st,fd⟩:=F;obtain ⟨g1,g2,g3,g4⟩:=Je;simp only at g1 g2 g3 x4;cases bb with
     |true=>
      rw [if_pos rfl] at x4;subst x4;simp -dsimp -implicitDefEqProofs only [go_sem];refine dr [1000000000] ?_;cases fd with
      |nil=>
       simp -dsimp -implicitDefEqProofs only [go_sem,cR];refine cg lh ?_;rintro _ _ ⟨rfl,rfl⟩;simp -dsimp -implicitDefEqProofs only [go_sem,cR];all_goals try exact rfl
      |cons f r=>
       obtain rfl:r=[]:=by cases r with|nil=>rfl|cons=>simp at g3
       simp -dsimp -implicitDefEqProofs only [go_sem,cR];refine cg lh ?_;rintro _ _ ⟨rfl,rfl⟩;simp -dsimp -implicitDefEqProofs only [go_sem,tW];all_goals try exact rfl
     |false=>
      rw [if_neg (by simp)] at x4;obtain rfl:=g2 rfl;simp -dsimp -implicitDefEqProofs only [go_sem];refine dr [1000000000] ?_;simp -dsimp -implicitDefEqProofs only [go_sem,cR];refine cg lh ?_;rintro _ _ ⟨rfl,rfl⟩;simp -dsimp -implicitDefEqProofs only [go_sem,cR];refine au hnx (by simp [ax,ao,aq,aF]) ?_;cases o with
      |some k2=>
       simp -dsimp -implicitDefEqProofs only [go_sem];refine ⟨(i+1,⟨tr,st,[]⟩),⟨by omega,g1,rfl,x4⟩,by simp only;omega,?_⟩;rw [hO];simp -dsimp -implicitDefEqProofs only [go_sem,c_,dc,cR]
      |none=>
       simp -dsimp -implicitDefEqProofs only [go_sem];refine ⟨(i+1,⟨tr,st,[]⟩),⟨by omega,g1,rfl,x4⟩,by simp only;omega,?_⟩;rw [hO];simp -dsimp -implicitDefEqProofs only [go_sem,fN,Option.isSome_none,cR]
    |false=>
     rw [if_neg (by simp)] at x4;simp -dsimp -implicitDefEqProofs only [go_sem];refine au hnx (by simp [ax,ao,aq,aF]) ?_;cases o with
     |some k2=>
      simp -dsimp -implicitDefEqProofs only [go_sem];refine ⟨(i+1,⟨tries+1,stop,[]⟩),⟨by omega,by simp only;omega,rfl,x4⟩,by simp only;omega,?_⟩;rw [hO];simp -dsimp -implicitDefEqProofs only [go_sem,c_,dc,cR];all_goals try exact rfl
     |none=>
      simp -dsimp -implicitDefEqProofs only [go_sem];refine ⟨(i+1,⟨tries+1,stop,[]⟩),⟨by omega,by simp only;omega,rfl,x4⟩,by simp only;omega,?_⟩;rw [hO];simp -dsimp -implicitDefEqProofs only [go_sem,fN,Option.isSome_none,cR];all_goals try exact rfl
 have gn:(bu m)[i]? =none:=List.getElem?_eq_none hi;rw [List.drop_of_length_le hi,DO] at x4;subst x4;rw [gn];simp -dsimp -implicitDefEqProofs only [go_sem,fN,Option.isSome_none,cR];all_goals try exact rfl
def kZ (m:aL) (t:lL) (lim:Int):Int:=if eW m t=true then (if bx lim 0 4000=true then 0 else 2) else 1
theorem B3 (m:aL) (t:lL) (lim:Int) (h:t.length<=1048576) (h2:∀x∈t,x.length<=1048576):Fn pG 136 [jQ m t,eI lim] true (· =eI (kZ m t lim)):=by
 have hs:=vu m t h h2;unfold kZ;refine Fn.av 11 [.tmp 4] func136 (hv:= ?_);cases hsy:eW m t with
 |false=>
  rw [hsy] at hs;simp -dsimp -implicitDefEqProofs only [go_sem];refine aa hs ?_;simp -dsimp -implicitDefEqProofs only [go_sem]
 |true=>
  rw [hsy] at hs;have hi:=jD lim 0 4000;cases hin:bx lim 0 4000 with
  |false=>
   rw [hin] at hi;simp -dsimp -implicitDefEqProofs only [go_sem];refine aa hs ?_;simp -dsimp -implicitDefEqProofs only [go_sem];refine aa hi ?_;simp -dsimp -implicitDefEqProofs only [go_sem]
  |true=>
   rw [hin] at hi;simp -dsimp -implicitDefEqProofs only [go_sem];refine aa hs ?_;simp -dsimp -implicitDefEqProofs only [go_sem];refine aa hi ?_;simp -dsimp -implicitDefEqProofs only [go_sem]
def fV (z:SS):AV:=match z.found with
 |f::_=>.aX [aQ f,eI z.tries,eI 0]
 | []=>.aX [.val (.slice none 0 0),eI 0,eI (if z.stop=true then 3 else 4)]
theorem IG (v:Nat) (m:aL) (t:lL) (lim:Nat) (z:SS) (h1:z.found.length<=1) (h2:∀f∈z.found,f.length<=1000/\∀k∈f,k.length<=1000):
 mb pG 137 [sB v m t lim z] [.ptr 1000000000 v 0 0] (λx io=>x=fV z/\io=[sB v m t lim z]):=by
 refine mb.cW 26 [.tmp 2,.tmp 3,.tmp 4] func137 (hv:= ?_);obtain ⟨tries,stop,found⟩:=z;have h00:decide ((0:Int)>0)=false:=rfl;have h10:decide (((1:Nat):Int)>0)=true:=rfl;simp only at h1 h2;cases found with
 |nil=>
  cases stop with
  |true=>
   simp -dsimp -implicitDefEqProofs only [go_sem,cR,fV,h00];all_goals try exact rfl
  |false=>
   simp -dsimp -implicitDefEqProofs only [go_sem,cR,fV,h00];all_goals try exact rfl
 |cons f r=>
  obtain rfl:r=[]:=by cases r with|nil=>rfl|cons=>simp at h1
  have ho:=h2 f (dR ..);have hq:=yU f ho.1 (λx hx=>by have:=ho.2 x hx;omega);simp -dsimp -implicitDefEqProofs only [go_sem,tW,h10];refine aj.draw mixed rfl ?_;simp -dsimp -implicitDefEqProofs only [go_sem,tW];((with_reducible and_intros);all_goals try omega);refine aH hq (by simp [ax,ao,aF]) ?_;simp -dsimp -implicitDefEqProofs only [go_sem,tW];((with_reducible and_intros);all_goals try exact rfl)
def lX (m:aL) (t:lL) (lim:Nat):AV:=if kZ m t lim=0 then fV (dN m t lim t.length [] ⟨0,false,[]⟩).2 else .aX [.val (.slice none 0 0),eI 0,eI (kZ m t lim)]
theorem PY {m:aL} {t:lL} (h:eW m t=true):aW m=true/\PX t:=by have ⟨h1,h2,h3,h4,h5⟩:=iW h;simp only [eW,uq0] at h;exact ⟨h.1.1,⟨h1,by omega⟩,h5,by omega⟩
theorem De (m:aL) (t:lL) (lim:Nat) (h:t.length<=1048576) (h2:∀x∈t,x.length<=1048576) (s6:lim<=4000):Fn pG 96 [jQ m t,eI lim] false (· =lX m t lim):=by
 refine Fn.bY 21 [.tmp 4,.tmp 5,.tmp 6] func96 (hv:= ?_);have hc:=B3 m t lim h h2;unfold lX;cases hz:(kZ m t lim != 0) with
 |true=>
  have hz':kZ m t lim≠0:=by simpa using hz
  rw [if_neg hz'];simp -dsimp -implicitDefEqProofs only [go_sem];refine aa hc ?_;simp -dsimp -implicitDefEqProofs only [go_sem,hz]
 |false=>
  have hz':kZ m t lim=0:=by simpa using hz
  rw [if_pos hz'];have hs:eW m t=true:=by
   cases h:eW m t with
   |true=>rfl
   |false=>rw [kZ,h,if_neg (by simp)] at hz';exact absurd hz' (by decide)
  obtain ⟨hm,ht⟩:=PY hs;have hfr:=λv=>IF m t lim hm ht s6 (t.length-1) v ⟨0,false,[]⟩ (by have:=ht.n;omega) (Nat.zero_le _) rfl;have hok:=kY (m:=m) (t:=t) (lim:=lim) t.length [] ⟨0,false,[]⟩ (λk h=>by cases h) (Nat.zero_le _) rfl;rw [show t.length-1+1=t.length by have:=ht.n;omega] at hfr;have hfi:=λv z h1 h2=>IG v m t lim z h1 h2;have lu:=aI hm;have htn:=ht.n;generalize dN m t lim t.length [] ⟨0,false,[]⟩=F at*;obtain ⟨b,z⟩:=F;obtain ⟨g1,g2,g3,g4⟩:=hok;simp only at g1 g2 g3 g4 hfr ⊢;have hfi:=λv=>hfi v z g3 (λf hf=>⟨by have:=(g4 f hf).1;simp at this;omega,λk hk=>by have:=(kj (m:=m) (by omega) ((g4 f hf).2 k hk)).len;omega⟩);simp -dsimp -implicitDefEqProofs only [go_sem];refine aa hc ?_;simp -dsimp -implicitDefEqProofs only [go_sem,hz];have h10:decide ((1:Int)>0)=true:=rfl;refine bN 900000 21 [.tmp 8] func138 rfl rfl rfl rfl rfl (by exact oT rfl) ?_;simp -dsimp -implicitDefEqProofs only [go_sem,h10];refine dr [14] ?_;obtain ⟨tr,st,fd⟩:=z;simp only at g1 g2 g3 g4;cases fd with
  |nil=>
   simp -dsimp -implicitDefEqProofs only [go_sem];refine cg (hfr _) ?_;rintro _ _ ⟨rfl,rfl⟩;simp -dsimp -implicitDefEqProofs only [go_sem,cR];refine dr [900014] ?_;simp -dsimp -implicitDefEqProofs only [go_sem];refine cg (hfi _) ?_;rintro _ _ ⟨rfl,rfl⟩;simp -dsimp -implicitDefEqProofs only [go_sem,fV]
  |cons f r=>
   obtain rfl:r=[]:=by cases r with|nil=>rfl|cons=>simp at g3
   simp -dsimp -implicitDefEqProofs only [go_sem];refine cg (hfr _) ?_;rintro _ _ ⟨rfl,rfl⟩;simp -dsimp -implicitDefEqProofs only [go_sem,tW];refine dr [900014] ?_;simp -dsimp -implicitDefEqProofs only [go_sem];refine cg (hfi _) ?_;rintro _ _ ⟨rfl,rfl⟩;simp -dsimp -implicitDefEqProofs only [go_sem,fV]
structure Y3 (m:aL) (t:lL) (s:Src):Prop where
 src:gq s
 lu:aW m=true
 lt:1<=t.length/\t.length<=4
 lr:1<=(t.getD 0 []).length/\(t.getD 0 []).length<=4
 rs:∀i (hi:i<t.length),t[i].length=(t.getD 0 []).length
structure Zj where
 m:aL
 t:lL
 ab:lL
 src:Src
structure Y4 (z:Zj):Prop where
 src:gq z.src
 lt:z.t.length<=11
 lr:∀x∈z.t,x.length<=13
 lc:z.ab.length<=10
 lk:∀x∈z.ab,x.length<=8
theorem FY (m:aL) (t:lL) (lim:Nat):(∃(f:lL) (tr:Nat),lX m t lim= .aX [aQ f,eI tr,eI 0]/\f.length<=t.length/\∀k∈f,k∈bu m)\/∃c:Int,(c==0)=false/\lX m t lim= .aX [.val (.slice none 0 0),eI 0,eI c]:=by
 unfold lX;by_cases h:kZ m t lim=0
 . rw [if_pos h];have hok:=kY (m:=m) (t:=t) (lim:=lim) t.length [] ⟨0,false,[]⟩ (λk h=>by cases h) (Nat.zero_le _) rfl;generalize dN m t lim t.length [] ⟨0,false,[]⟩=F at*;obtain ⟨b,tr,st,fd⟩:=F;obtain ⟨g1,g2,g3,g4⟩:=hok;simp only at g1 g2 g3 g4 ⊢;cases fd with
   |nil=>exact .inr ⟨if st=true then 3 else 4,by cases st<;>rfl,by cases st<;>rfl⟩
   |cons f r=>
    have:=g4 f (dR ..);exact .inl ⟨f,tr,rfl,by have:=this.1;simp at this;omega,this.2⟩
 rw [if_neg h];exact .inr ⟨_,by simpa using h,rfl⟩
open Go.Lib
attribute [go_sem] Option.map_none Nat.sub_zero dw List.size_toArray L6 pP SK nC nB
theorem SV (a b:lU):(a==b)=decide (a=b):=by
 by_cases h:a=b
 . simp [h]
 simp [h]
attribute [go_sem] SV
theorem pY {x:Int} (h:0<=x/\x<256):IntKind.u8.wrap x=x:=by simp [IntKind.wrap,IntKind.bits,IntKind.signed];omega
theorem J1 {n:Nat} (h:n<10):decDigits n=[UInt8.ofNat (48+n)]:=decDigits_one h
theorem PZ {n:Nat} (h:¬n<10):decDigits n=decDigits (n / 10)++[UInt8.ofNat (48+n%10)]:=by rw [decDigits,dif_neg h]
theorem zM {n:Nat} (h:n<18446744073709551616):(decDigits n).length<=20:=by rw [decDigits_length];exact nDigits_le20 n h
theorem FZ:∀(n:Nat),n<=1000000000000000000->Fn pG 65 [eI n] true (· =eS (decDigits n)):=by
 intro n;induction n using Nat.strongRecOn with
 |_ n ih=>
  intro hn;refine Fn.av 20 [.tmp 2] func65 (hv:= ?_);simp -dsimp -implicitDefEqProofs only [go_sem];by_cases h:n<10
  . have hd:decide ((n:Int)<10)=true:=dT (by omega);have hw:IntKind.u8.wrap (48+(n:Int))=48+(n:Int):=pY (by omega);have ht:(48+(n:Int)).toNat=48+n:=(by omega);rw [J1 h];simp -dsimp -implicitDefEqProofs only [go_sem,hd,hw,ht];with_reducible and_intros
    all_goals first|omega|(refine ⟨?_,?_⟩<;>omega)|skip
  have hd:decide ((n:Int)<10)=false:=dF (by omega);have hq:(n:Int).tdiv 10=((n / 10:Nat):Int):=by rw [Int.tdiv_eq_ediv_of_nonneg (by omega)];omega
  have hr:(n:Int).tmod 10=((n%10:Nat):Int):=by rw [Int.tmod_eq_emod_of_nonneg (by omega)];omega
  have hw:IntKind.u8.wrap (48+((n%10:Nat):Int))=48+((n%10:Nat):Int):=pY (by omega);have ht:(48+((n%10:Nat):Int)).toNat=48+n%10:=by omega
  have hl:=zM (n:=n / 10) (by omega);have hc:=ih (n / 10) (by omega) (by omega);rw [PZ h];simp -dsimp -implicitDefEqProofs only [go_sem,hd];refine aj.draw mixed rfl ?_;simp -dsimp -implicitDefEqProofs only [go_sem,hq];with_reducible and_intros
  all_goals try (first|omega|(refine ⟨?_,?_⟩<;>omega)|(simp;done))
  refine an hc ?_;have hz:n%10<10:=Nat.mod_lt _ (by decide);generalize n%10=z at*;simp -dsimp -implicitDefEqProofs only [go_sem,hr,hw,ht];with_reducible and_intros
  all_goals first|omega|(refine ⟨?_,?_⟩<;>omega)|exact rfl|skip
theorem cC (n:Int) (h:0<=n/\n<=1000000000000000000):Fn pG 65 [eI n] true (· =eS (itoa n)):=by have:=FZ n.toNat (by omega);rw [show ((n.toNat:Nat):Int)=n by omega] at this;rw [fg h.1];exact this
theorem k6 {n:Int} (h:jx n):Fn pG 83 [eI n] true (· =eS (itoa n)):=by refine Fn.av 5 [.tmp 2] func83 (hv:= ?_);simp -dsimp -implicitDefEqProofs only [go_sem];refine aa (FO h) ?_;simp -dsimp -implicitDefEqProofs only [go_sem]
theorem SW (s:lU):p8 s=(mc s,yC s&&decide (itoa (mc s)=s)):=by unfold p8 mc yC;cases parseIntB 64 s<;>simp
theorem Mv (s:lU):jx (mc s):=by
 unfold mc;rcases hp:parseIntB 64 s with v|_|_
 . exact vr hp
 . unfold jx;simp
 simp only [intSat];split<;>simp [jx]
theorem P0 (s:lU) (h:s.length<=1048576):Fn pG 69 [eS s] true (· = .aX [eI (p8 s).1,eB (p8 s).2]):=by
 refine Fn.av 20 [.tmp 2,.tmp 3] func69 (hv:= ?_);simp -dsimp -implicitDefEqProofs only [go_sem];refine qJ (Is s h) ?_;rintro _ ⟨e,rfl,he⟩;rw [SW];have h64:=Mv s;have hl:=bS h64;generalize mc s=v at*;rcases ho:yC s with _|_
 . rw [ho] at he;simp only [Bool.false_eq_true,if_false] at he;obtain ⟨t,p,rfl⟩:=he;simp -dsimp -implicitDefEqProofs only [go_sem]
 rw [ho] at he;simp only [if_true] at he;subst he;simp -dsimp -implicitDefEqProofs only [go_sem];refine aa (k6 h64) ?_;simp -dsimp -implicitDefEqProofs only [go_sem]
theorem iY (c:UInt8):∀(l:lU),∀w∈cT c l,w.length<=l.length
 | [],w,hw=>by simp [cT] at hw;simp [hw]
 |b::l,w,hw=>by
  have ih:=iY c l;rw [cT] at hw;split at hw
  . rcases List.mem_cons.1 hw with rfl|hw
    . simp
    have:=ih w hw;simp;omega
  split at hw
  . rename_i h t he;rcases List.mem_cons.1 hw with rfl|hw
    . have:=ih h (by rw [he];exact dR ..);simp;omega
    have:=ih w (by rw [he];exact List.mem_cons_of_mem _ hw);simp;omega
  simp at hw;simp [hw]
def fm (c:UInt8) (s:lU):Nat->List lU × Nat
 |0=>([],0)
 |i+1=>if i=s.length\/s.getD i 0=c then ((fm c s i).1++[(s.take i).drop (fm c s i).2],i+1) else fm c s i
theorem P1 {α:Type} {s:List α} {i j:Nat} {x:α} (h:s[i]? =some x) (hj:j<=i):s.drop j=(s.take i).drop j++x::s.drop (i+1):=by
 obtain ⟨hlt,he⟩:=List.getElem?_eq_some_iff.1 h;have e:s.take i++x::s.drop (i+1)=s:=by rw [←he,←List.drop_eq_getElem_cons hlt,List.take_append_drop]
 rw [←List.drop_append_of_le_length (by simp;omega),e]
theorem B4 (c:UInt8) (s:lU):∀i,i<=s.length->cT c s=(fm c s i).1++cT c (s.drop (fm c s i).2)/\(fm c s i).2<=i/\c∉(s.take i).drop (fm c s i).2/\(fm c s i).1.length<=i
 |0,_=>by simp [fm]
 |i+1,hi=>by
  obtain ⟨h1,h2,h3,h4⟩:=B4 c s i (by omega);have hlt:i<s.length:=by omega
  have hg:s.getD i 0=s[i]:=by rw [uq4,uq5 hlt];rfl
  rw [fm];by_cases hc:s[i]=c
  . rw [if_pos (.inr (by rw [hg];exact hc))];dsimp only;refine ⟨?_,bt _,?_,by simp;omega⟩
    . rw [List.append_assoc,h1];congr 1;have e:=P1 (s:=s) (i:=i) (j:=(fm c s i).2) (by rw [uq5 hlt,hc]) h2;rw [e,C8 _ h3];rfl
    rw [List.drop_eq_nil_of_le (by simp;omega)];exact List.not_mem_nil
  rw [if_neg (by rw [hg];rintro (h|h);· omega
                 exact hc h)]
  refine ⟨h1,by omega,?_,by omega⟩;rw [fq hlt,List.drop_append];intro hm;rcases bj.1 hm with hm|hm
  . exact h3 hm
  have:(s.take i).length=i:=by simp;omega
  rw [this,show (fm c s i).2-i=0 by omega] at hm;simp at hm;exact hc hm.symm
theorem Mw (c:UInt8) (s:lU):(fm c s (s.length+1)).1=cT c s:=by obtain ⟨h1,h2,h3,h4⟩:=B4 c s s.length (bt _);rw [fm,if_pos (.inl rfl)];rw [dw] at h3 ⊢;rw [h1,sI h3]
theorem F0 (c:UInt8) (s:lU):∀i,(fm c s i).1.length<=i/\(fm c s i).2<=i
 |0=>by simp [fm]
 |i+1=>by
  have:=F0 c s i;rw [fm];split
  . simp;omega
  omega
theorem W6 (a b:UInt8):(((a.toNat:Int)==(b.toNat:Int))=true)↔a=b:=by
 rw [beq_iff_eq];constructor
 . intro h;exact UInt8.toNat_inj.1 (by omega)
 intro h;rw [h]
theorem yW (s:lU) (c:UInt8) (h:s.length<=1048576):Fn pG 56 [eS s,.val (.int .u8 c.toNat)] true (· =lP (cT c s)):=by
 refine Fn.av 36 [.tmp 4] func56 (hv:= ?_);simp -dsimp -implicitDefEqProofs only [go_sem];refine aj.up [0,1] [11,17,31,32] [8] (s.length+1) (λ_=>True) (λi=>[(5,.ref 8 0 0 (fm c s i).1.length),(6,eI ((fm c s i).2:Nat)),(7,eI i)]) (λi=>[(8,.row 0 ⟨1,false⟩ true ((fm c s i).1.map eS))]) trivial ?_ rfl (λi hi _=> ?_) (λ_=> ?_)
 . simp -dsimp -implicitDefEqProofs only [go_sem];simp [fm]
 . have hle:=F0 c s i;have d1:decide ((i:Int)<=(s.length:Int))=true:=dT (by omega);have hst:fm c s (i+1)=if i=s.length\/s.getD i 0=c then ((fm c s i).1++[(s.take i).drop (fm c s i).2],i+1) else fm c s i:=rfl
   rw [hst];clear hst;generalize fm c s i=q at*;obtain ⟨out,fr⟩:=q;dsimp only at hle ⊢;rcases he:((i:Int)==(s.length:Int)) with _|_
   . have hne:i≠s.length:=(by intro e;subst e;simp at he);have hlt:i<s.length:=(by omega);have hg:s.getD i 0=s[i]:=(by rw [uq4,uq5 hlt];rfl);have hu:=W6 s[i] c;rw [hg];generalize s[i]=b at*;rcases hb:((b.toNat:Int)==(c.toNat:Int)) with _|_
     . have hbc:b≠c:=λe=>by rw [hu.2 e] at hb;cases hb
       rw [if_neg (by rintro (w|w);· exact hne w
                      exact hbc w)]
       simp -dsimp -implicitDefEqProofs only [go_sem,d1,he,hg,hb];with_reducible and_intros
       all_goals (first|omega|(refine ⟨?_,?_⟩<;>omega)|exact rfl|skip)
     rw [if_pos (.inr (hu.1 hb))];simp -dsimp -implicitDefEqProofs only [go_sem,d1,he,hg,hb];with_reducible and_intros
     all_goals try (first|omega|(refine ⟨?_,?_⟩<;>omega))
     all_goals first|(simp;done)|skip
   have hq:i=s.length:=(by have:=beq_iff_eq.1 he;omega);rw [if_pos (.inl hq)];simp -dsimp -implicitDefEqProofs only [go_sem,d1,he];with_reducible and_intros
   all_goals try (first|omega|(refine ⟨?_,?_⟩<;>omega))
   all_goals first|(simp;done)|skip
 have d1:decide (((s.length+1:Nat):Int)<=(s.length:Int))=false:=dF (by omega);rw [Mw];simp -dsimp -implicitDefEqProofs only [go_sem,d1];all_goals first|(simp;done)|skip
theorem IH (b:UInt8):(decide (48<=b.toNat)&&decide (b.toNat<=57))=(!(decide ((b.toNat:Int)<48)||decide ((b.toNat:Int)>57))):=by
 by_cases h1:48<=b.toNat
 . by_cases h2:b.toNat<=57
   . rw [decide_eq_true h1,decide_eq_true h2,decide_eq_false (by omega),decide_eq_false (by omega)];rfl
   rw [decide_eq_true h1,decide_eq_false h2,decide_eq_false (by omega),decide_eq_true (by omega)];rfl
 rw [decide_eq_false h1,decide_eq_true (show (b.toNat:Int)<48 by omega)];rfl
abbrev dO (b:UInt8):Bool:=decide (48<=b.toNat)&&decide (b.toNat<=57)
theorem J2 {n:Nat} (h:n<=13):10^n<=10000000000000:=by have:=dD (show 0<10 by decide) h;exact this
theorem II (s:lU) (h:s.length<=1048576):Fn pG 71 [eS s] true (· = .aX [eI (dU s).1,eB (dU s).2]):=by
 refine Fn.av 43 [.tmp 2,.tmp 3] func71 (hv:= ?_);unfold dU;rcases h1:decide ((s.length:Int)<1) with _|_
 . rcases h13:decide ((s.length:Int)>13) with _|_
   . have g1:=of_decide_eq_false h1;have g2:=of_decide_eq_false h13;rw [if_neg (by omega)];have hv:∀i,i<=s.length->((s.take i).all dO)=true->jP 0 (s.take i)<=10000000000000:=by
      intro i hi cO;have h3:=sH (s.take i) 0 (λc hc=>by have:=uq1.1 cO c hc;simpa [dO] using this);have h4:=J2 (n:=(s.take i).length) (by simp;omega);rw [Nat.zero_add,Nat.one_mul] at h3;omega
     simp -dsimp -implicitDefEqProofs only [go_sem,h1,h13];refine aj.up [0] [16] [] s.length (λi=>((s.take i).all dO)=true) (λi=>[(4,eI ((jP 0 (s.take i):Nat):Int)),(5,eI i)]) (λ_=>[]) rfl ?_ rfl (λi hi hI=> ?_) (λhI=> ?_)
     . simp -dsimp -implicitDefEqProofs only [go_sem];exact rfl
     . have hb:=(s[i]).toNat_lt;have hg:(s.getD i 0)=s[i]:=(by rw [uq4,uq5 hi];rfl);have cO:=dy dO s i hi;have hno:=λh=>gP (p:=dO) hi h;have hdv:jP 0 (s.take (i+1))=jP 0 (s.take i)*10+((s[i]).toNat-48):=(by rw [fq hi,FH];rfl);have hv1:=hv i (by omega) hI;have hd:=IH s[i];rw [hdv];clear hdv hv;generalize s[i]=b at*;generalize jP 0 (s.take i)=z at*;rcases d1:decide ((b.toNat:Int)<48) with _|_
       . rcases d2:decide ((b.toNat:Int)>57) with _|_
         . have e1:=of_decide_eq_false d1;have e2:=of_decide_eq_false d2;have hw:IntKind.u8.wrap ((b.toNat:Int)-48)=(b.toNat:Int)-48:=pY (by omega);simp -dsimp -implicitDefEqProofs only [go_sem,aE hi,hg,d1,d2,hw];with_reducible and_intros
           all_goals first|omega|(refine ⟨?_,?_⟩<;>omega)|(rw [cO,hI];show dO b=true;rw [dO,hd,d1,d2];rfl)|(simp;omega)|(simp;done)|skip
         have hz:=hno (by rw [dO,hd,d1,d2];rfl);rw [if_neg (by rw [show (s.all λc=>decide (48<=c.toNat)&&decide (c.toNat<=57))=s.all dO from rfl,hz];decide)];simp -dsimp -implicitDefEqProofs only [go_sem,aE hi,hg,d1,d2];with_reducible and_intros
         all_goals (first|omega|skip)
       have hz:=hno (by rw [dO,hd,d1];rfl);rw [if_neg (by rw [show (s.all λc=>decide (48<=c.toNat)&&decide (c.toNat<=57))=s.all dO from rfl,hz];decide)];simp -dsimp -implicitDefEqProofs only [go_sem,aE hi,hg,d1];with_reducible and_intros
       all_goals (first|omega|skip)
     rw [dw] at hI;have hv1:=hv s.length (bt _) (by rw [dw];exact hI);rw [dw] at hv1;rw [if_pos (show (s.all λc=>decide (48<=c.toNat)&&decide (c.toNat<=57))=true from hI),dw];have hcd:=FZ (jP 0 s) (by omega);generalize jP 0 s=z at*;simp -dsimp -implicitDefEqProofs only [go_sem,ay];refine aa hcd ?_;simp -dsimp -implicitDefEqProofs only [go_sem]
   have g1:=oT h13;rw [if_pos (by omega)];simp -dsimp -implicitDefEqProofs only [go_sem,h1,h13]
 have g1:=oT h1;rw [if_pos (by omega)];simp -dsimp -implicitDefEqProofs only [go_sem,h1]
end Go.Vc
