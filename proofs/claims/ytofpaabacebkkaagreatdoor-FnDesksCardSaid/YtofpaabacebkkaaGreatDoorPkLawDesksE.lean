import Derived.Test.YtofpaabacebkkaaGreatDoorPkLawDesksD
open Go.Proofs.Tryz
open Go.Proofs.Tryz renaming prog → pG
set_option linter.unusedVariables false
set_option linter.unusedSimpArgs false
set_option linter.unnecessarySimpa false
set_option maxRecDepth 1000000
set_option maxHeartbeats 16000000
open Bool renaming and_eq_true->uq0
open List renaming all_eq_true->uq1,drop_succ_cons->uq2,drop_zero->uq3,getD_eq_getElem?_getD->uq4,getElem?_eq_getElem->uq5,getElem_mem->uq6,length_append->uq7,map->uq8,map_take->uq9,mem_append->bk,mem_cons_self->dL,mem_range->dE,mem_singleton->cM,range->a_,range_succ->ba,take->bp,take_length->cE,take_of_length_le->b7,take_succ_cons->eR,take_succ_eq_append_getElem->dh,take_zero->c_
open Nat renaming le_refl->bw,pow_le_pow_right->di,reduceAdd->e8,reduceBEq->cm,reduceDiv->fu,reduceEqDiff->eZ
open Option renaming isSome_some->da
namespace Go.Vc
open Go.Proofs
attribute [go_sem] Option.map_none Nat.sub_zero
def fm (x:Int):Int:=if x< -x then -x else x
def aZ (c:lI):Nat->Nat
 |0=>1
 |i+1=>if c.getD (i+1) 0=c.getD i 0 then aZ c i+1 else 1
theorem il (c:lI)(i:Nat):1<=aZ c i/\aZ c i<=i+1/\(∀j,j<aZ c i->c.getD (i-j) 0=c.getD i 0)/\(aZ c i<i+1->c.getD (i-aZ c i) 0≠c.getD i 0):=by
 induction i with
 |zero=>exact ⟨bw _,bw _,λj hj=>by simp[aZ] at hj;subst hj;rfl,λh=>by simp[aZ] at h⟩
 |succ i ih=>
  obtain ⟨h1,h2,h3,h4⟩:=ih;simp only[aZ];split
  . rename_i e;refine ⟨by omega,by omega,λj hj=> ?_,λhj=> ?_⟩
    . rw [e];cases j with
      |zero=>exact e
      |succ j=>rw[show i+1-(j+1)=i-j by omega];exact h3 j (by omega)
    rw[e,show i+1-(aZ c i+1)=i-aZ c i by omega];exact h4 (by omega)
  rename_i e;refine ⟨by omega,by omega,λj hj=>?_,λ_=>?_⟩
  . have:j=0:=(by omega);subst this;rfl
  show c.getD i 0≠_;exact λh=>e h.symm
theorem yG (c:lI)(n i:Nat)(h:i<n):aZ (c.take n) i=aZ c i:=by
 have g:∀j,j<n->(c.take n).getD j 0=c.getD j 0:=λj hj=>by simp[uq4,hj]
 induction i with
 |zero=>rfl
 |succ i ih=>simp only[aZ];rw[g (i+1) h,g i (by omega),ih (by omega)]
def dB (c:lI)(i:Nat):Nat:=if i=0 then 0 else aZ c (i-1)
def du (c:lI):Nat->Nat
 |0=>0
 |i+1=>if du c i<aZ c i then aZ c i else du c i
theorem Mv (c:lI)(s:Int)(hs:0<=s)(n:Nat):decide ((du c n:Int)>s)= !((a_ n).all λi=>decide ((aZ c i:Int)<=s)):=by
 induction n with
 |zero=>simp[du];omega
 |succ n ih=>
  rw[bj,Bool.not_and,←ih];simp only[du];split
  . by_cases h:(aZ c n:Int)<=s
    . rw[decide_eq_true h,decide_eq_false (show ¬(du c n:Int)>s by omega),decide_eq_false (show ¬(aZ c n:Int)>s by omega)];rfl
    rw[decide_eq_false h,decide_eq_true (show (aZ c n:Int)>s by omega)];simp
  by_cases h:(aZ c n:Int)<=s
  . rw[decide_eq_true h];simp
  rw[decide_eq_false h,decide_eq_true (show (du c n:Int)>s by omega)];simp
def cw (m:aJ)(c:lI)(i:Nat):Bool:=i==0||decide (fm (c.getD i 0-c.getD (i-1) 0)<=m.step)
def bg (c:lI)(n:Nat):Nat:=((a_ n).filter λi=> !has (c.take i) (c.getD i 0)).length
theorem sV (c:lI)(i:Nat)(h:i<c.length):(bg c (i+1):Int)=if (!has (c.take i) c[i])=true then (bg c i:Int)+1 else bg c i:=by
 have g:c.getD i 0=c[i]:=by simp[uq4,h]
 rw[bg,ba,List.filter_append,List.filter_cons,g];split<;>simp[bg]
theorem jq (c:lI)(i:Nat):bg c i<=i:=by rw[bg];exact Nat.le_trans (List.length_filter_le _ _) (by simp)
def fault (m:aJ)(c:lI):Int:=
 if (c.length:Int)≠m.ae then 1
 else if (c.all λx=>bA x 0 (m.ak-1))=false then 2
 else if ((a_ c.length).all (cw m c))=false then 3
 else if ((a_ c.length).all λi=>decide ((aZ c i:Int)<=m.same))=false then 4
 else if (bg c c.length:Int)<m.least then 5 else 0
attribute [irreducible] aZ du bg
theorem F1 (x:Int)(h: -1000<=x/\x<=1000):Fn pG 92 [eI x] true (· =eI (fm x)):=by
 refine Fn.au 7 [.tmp 2] func92 (hv:=?_);simp -dsimp -implicitDefEqProofs only[go_sem];with_reducible and_intros
 all_goals first|(refine ⟨?_,?_⟩<;>omega)|(simp_all [fm];done)|skip
theorem jr (x:Int)(h: -1000<=x/\x<=1000):Fn pG 131 [eI x] true (· =eI (fm x)):=by
 refine Fn.au 7 [.tmp 2] func131 (hv:=?_);simp -dsimp -implicitDefEqProofs only[go_sem];with_reducible and_intros
 all_goals first|(refine ⟨?_,?_⟩<;>omega)|(simp_all [fm];done)|skip
theorem re (c:lI)(h:c.length<=1048576):Fn pG 93 [aM c] true (· =eI (bg c c.length)):=by
 refine Fn.au 23 [.tmp 2] func93 (hv:=?_);simp -dsimp -implicitDefEqProofs only[go_sem];refine aj.up [0] [7,18] [] c.length (λ_=>True) (λi=>[(4,eI i),(3,eI (bg c i))]) (λ_=>[]) trivial ?_ rfl (λi hi _=>?_) (λ_=>?_)
 . simp -dsimp -implicitDefEqProofs only[go_sem];all_goals first|(simp[bg];done)|skip
 . have gi:=get_some hi;have li:=aE hi;have hs:=sV c i hi;have hle:=jq c i;simp -dsimp -implicitDefEqProofs only [pz,↓reduceIte,eZ];rw [hs];clear hs;simp -dsimp -implicitDefEqProofs only [go_sem,li]
   repeat' first
    |(refine Br.intro (λ_=>?_) (λ_=>?_)<;>try simp -dsimp -implicitDefEqProofs only[go_sem, *])
    |(with_reducible refine ai ?_ ?_)
    |(refine aj.draw mixed rfl ?_;try simp -dsimp -implicitDefEqProofs only[go_sem, *])
    |(rw[←uq9];refine an (FV (c.take i) c[i] (by simp;omega)) ?_;try simp -dsimp -implicitDefEqProofs only[go_sem, *])
   all_goals first
    |omega|(refine ⟨?_,?_⟩<;>omega)|(simp;done)
    |rfl
    |skip
 have hle:=jq c c.length;simp -dsimp -implicitDefEqProofs only[go_sem,aA]
theorem iE (c:lI)(h:c.length<=1048576):Fn pG 133 [aM c] true (· =eI (bg c c.length)):=by
 refine Fn.au 23 [.tmp 2] func133 (hv:=?_);simp -dsimp -implicitDefEqProofs only[go_sem];refine aj.up [0,6,7] [17] [] c.length (λ_=>True) (λi=>[(8,eI i),(3,eI (bg c i))]) (λ_=>[]) trivial ?_ rfl (λi hi _=>?_) (λ_=>?_)
 . simp -dsimp -implicitDefEqProofs only[go_sem];all_goals first|(simp[bg];done)|skip
 . have gi:=get_some hi;have li:=aE hi;have hs:=sV c i hi;have hle:=jq c i;simp -dsimp -implicitDefEqProofs only [pz,↓reduceIte,eZ];rw [hs];clear hs;simp -dsimp -implicitDefEqProofs only [go_sem,li,gi]
   repeat' first
    |(refine Br.intro (λ_=>?_) (λ_=>?_)<;>try simp -dsimp -implicitDefEqProofs only[go_sem, *])
    |(with_reducible refine ai ?_ ?_)
    |(rw[←uq9];refine aa (qZ (c.take i) c[i] (by simp;omega)) ?_;try simp -dsimp -implicitDefEqProofs only[go_sem, *])
   all_goals first
    |omega|(refine ⟨?_,?_⟩<;>omega)|(simp;done)
    |skip
 have hle:=jq c c.length;simp -dsimp -implicitDefEqProofs only[go_sem,aA]
theorem kE (c:lI)(h0:0<c.length)(h:c.length<=1048576):Fn pG 132 [aM c] true (· =eI (aZ c (c.length-1))):=by
 refine Fn.au 28 [.tmp 2] func132 (hv:=?_);obtain ⟨p1,p2,p3,p4⟩:=il c (c.length-1);generalize hR:aZ c (c.length-1)=R at p1 p2 p3 p4;have gl:c[c.length-1]? =some (c.getD (c.length-1) 0):=by simp[uq4,show c.length-1<c.length by omega]
 generalize c.getD (c.length-1) 0=z at gl p3 p4;have q3:∀j,j<R->c[c.length-1-j]? =some z:=λj hj=>by rw[←p3 j hj];simp[uq4,show c.length-1-j<c.length by omega]
 have e1:((c.length:Int)-1).toNat=c.length-1:=by omega
 simp -dsimp -implicitDefEqProofs only[go_sem];refine aj.up [0] [6,11,19] [] (R-1) (λ_=>True) (λi=>[(3,eI ((i+1:Nat):Int))]) (λ_=>[]) trivial ?_ rfl (λi hi _=>?_) (λ_=>?_)
 . simp -dsimp -implicitDefEqProofs only[go_sem];all_goals first|(simp;done)|skip
 . have g:=q3 (i+1) (by omega);have li:decide (((i+1:Nat):Int)<(c.length:Int))=true:=dT (by omega);have e2:((c.length:Int)-1-((i+1:Nat):Int)).toNat=c.length-1-(i+1):=(by omega);clear q3 p3 p4;simp -dsimp -implicitDefEqProofs only [go_sem]
   repeat' first
    |(with_reducible refine ai ?_ ?_)
    |(refine aj.draw mixed rfl ?_;try simp -dsimp -implicitDefEqProofs only[go_sem,li,e1,e2,g,gl])
   all_goals first
    |omega|(refine ⟨?_,?_⟩<;>omega)|(simp;done)
    |rfl
    |skip
 have er:R-1+1=R:=by omega
 clear q3 p3;rw[er];simp -dsimp -implicitDefEqProofs only[pz,↓reduceIte,eZ];by_cases hlt:R<c.length
 . have g:c[c.length-1-R]? =some (c.getD (c.length-1-R) 0):=(by simp [uq4,show c.length-1-R<c.length by omega]);have hz:(c.getD (c.length-1-R) 0==z)=false:=beq_eq_false_iff_ne.2 (p4 (by omega));have li:decide ((R:Int)<(c.length:Int))=true:=dT (by omega);have e2:((c.length:Int)-1-(R:Int)).toNat=c.length-1-R:=(by omega);generalize c.getD (c.length-1-R) 0=y at g hz;clear p4;simp -dsimp -implicitDefEqProofs only [go_sem]
   repeat' first
    |(with_reducible refine ai ?_ ?_)
    |(refine aj.draw mixed rfl ?_;try simp -dsimp -implicitDefEqProofs only[go_sem,li,e1,e2,g,gl,hz])
   all_goals first
    |omega|(refine ⟨?_,?_⟩<;>omega)
    |rfl
    |skip
 have li:decide ((R:Int)<(c.length:Int))=false:=dF (by omega);clear p4;simp -dsimp -implicitDefEqProofs only[go_sem];repeat' (refine aj.draw mixed rfl ?_;try simp -dsimp -implicitDefEqProofs only[go_sem,li])
 all_goals first
  |rfl
  |skip
theorem yH (m:aJ)(c:lI)(hm:aU m=true)(h:c.length<=1048576):Fn pG 91 [kj m,aM c] true (· =eB ((c.all λx=>bA x 0 (m.ak-1))&&((c.length:Int)==m.ae))):=by
 refine Fn.au 26 [.tmp 4] func91 (hv:=?_);have hb:=aI hm;simp -dsimp -implicitDefEqProofs only[go_sem];refine aj.up [1,2] [8,19] [] c.length (λi=>(c.take i).all (λx=>bA x 0 (m.ak-1))) (λi=>[(5,eI i)]) (λ_=>[]) (by simp) ?_ rfl (λi hi hI=>?_) (λhI=>?_)
 . simp -dsimp -implicitDefEqProofs only[go_sem]
 . have gi:=get_some hi;have li:=aE hi;have no:bA c[i] 0 (m.ak-1)=false->(c.all λx=>bA x 0 (m.ak-1))=false:=λh=>gQ (p:=λx=>bA x 0 (m.ak-1)) hi h;have yes:bA c[i] 0 (m.ak-1)=true->(c.take (i+1)).all (λx=>bA x 0 (m.ak-1))=true:=λh=>by rw [dA _ _ _ hi,hI,h];rfl
   simp -dsimp -implicitDefEqProofs only[go_sem,li]
   repeat' first
    |(refine Br.intro (λ_=>?_) (λ_=>?_)<;>try simp -dsimp -implicitDefEqProofs only[go_sem, *])
    |(with_reducible refine ai ?_ ?_)
    |(refine aj.draw mixed rfl ?_;try simp -dsimp -implicitDefEqProofs only[go_sem, *])
    |(refine an (jE _ _ _) ?_;try simp -dsimp -implicitDefEqProofs only[go_sem, *])
   all_goals first
    |omega
    |(refine ⟨?_,?_⟩<;>omega)
    |rfl
    |(rw[no (by simp_all)];rfl)
    |(refine yes ?_;simp_all;done)
    |skip
 simp -dsimp -implicitDefEqProofs only[pz,cm,fu,e8,↓reduceIte,eZ];rw[cE] at hI;simp -dsimp -implicitDefEqProofs only[go_sem,aA];rw[hI];rfl
theorem IM (m:aJ)(c:lI)(hm:aU m=true)(h:c.length<=1048576):Fn pG 130 [kj m,aM c] true (· =eB (((c.length:Int)==m.ae)&&(c.all λx=>bA x 0 (m.ak-1)))):=by
 refine Fn.au 17 [.tmp 4] func130 (hv:=?_);have hb:=aI hm;simp -dsimp -implicitDefEqProofs only[go_sem]
 repeat' first
  |(refine Br.intro (λ_=>?_) (λ_=>?_)<;>try simp -dsimp -implicitDefEqProofs only[go_sem, *])
  |(with_reducible refine ai ?_ ?_)
  |(refine aa (pe c 0 (m.ak-1) (by omega)) ?_;try simp -dsimp -implicitDefEqProofs only[go_sem, *])
 all_goals first
  |(refine ⟨?_,?_⟩<;>omega)
  |skip
theorem Kg {m:aJ}{c:lI}(hm:aU m=true)(ha:(c.all λx=>bA x 0 (m.ak-1))=true)(i:Nat)(hi:i<c.length):0<=c[i]/\c[i]<=7:=by have:=aI hm;rw[uq1] at ha;have:=ha _ (uq6 hi);simp[bA] at this;omega
theorem kF {m:aJ}(h:aU m=true):1<=m.same/\m.same<=6/\1<=m.least/\1<=m.step:=by simp only[aU,uq0,bA,decide_eq_true_eq] at h;omega
theorem nH (m:aJ)(c:lI)(hm:aU m=true)(h:c.length<=1048576):Fn pG 78 [kj m,aM c] true (· =eI (fault m c)):=by
 refine Fn.au 71 [.tmp 4] func78 (hv:=?_);rcases hl:((c.length:Int)==m.ae) with _|_
 . have hF:fault m c=1:=(by rw [fault,if_pos (by simpa using hl)]);rw [hF];simp -dsimp -implicitDefEqProofs only [go_sem];repeat' (refine Br.intro (λ_=> ?_) (λ_=> ?_)<;>try simp -dsimp -implicitDefEqProofs only [go_sem, *])
   all_goals (first|(simp_all;done)|skip)
 have hle:¬(c.length:Int)≠m.ae:=by simpa using hl
 rcases ha:(c.all λx=>bA x 0 (m.ak-1)) with _|_
 . have hF:fault m c=2:=(by rw [fault,if_neg hle,if_pos ha]);have hc:=yH m c hm h;rw [ha,hl] at hc;rw [hF];clear hF ha hle;simp -dsimp -implicitDefEqProofs only [go_sem]
   repeat' first
    |(refine Br.intro (λ_=>?_) (λ_=>?_)<;>try simp -dsimp -implicitDefEqProofs only[go_sem, *])
    |(refine aa (hc) ?_;try simp -dsimp -implicitDefEqProofs only[go_sem, *])
   all_goals (first|(simp_all;done)|skip)
 have hF:fault m c=if ((a_ c.length).all (cw m c))=false then 3 else if ((a_ c.length).all λi=>decide ((aZ c i:Int)<=m.same))=false then 4 else if (bg c c.length:Int)<m.least then 5 else 0:=by rw[fault,if_neg hle,if_neg (by simp[ha])]
 have hc:=yH m c hm h;rw[ha,hl] at hc;have hel:=Kg hm ha;have hsm:=kF hm;have hkl:=jq c c.length;have hch:c.length<=6:=by have:=aI hm;omega
 clear ha hle;simp -dsimp -implicitDefEqProofs only[go_sem]
 repeat' first
  |(refine Br.intro (λ_=>?_) (λ_=>?_)<;>try simp -dsimp -implicitDefEqProofs only[go_sem, *])
  |(refine aa (hc) ?_;try simp -dsimp -implicitDefEqProofs only[go_sem, *])
 all_goals try ((simp_all;done))
 clear hl hc;refine aj.up [1,2] [19,36,59] [] c.length (λi=>(a_ i).all (cw m c)) (λi=>[(7,eI i),(5,eI (dB c i)),(6,eI (du c i))]) (λ_=>[]) (by simp) ?_ rfl (λi hi hI=>?_) (λhI=>?_)
 . have h0:du c 0=0:=(by unfold du;rfl);rw[show dB c 0=0 from rfl,h0];simp -dsimp -implicitDefEqProofs only[go_sem]
 . have no:cw m c i=false->fault m c=3:=λh=>by rw [hF,if_pos (b8 hi h)]
   have yes:cw m c i=true->(a_ (i+1)).all (cw m c)=true:=λh=>by rw[bj,hI,h];rfl
   have hM:((du c (i+1):Nat):Int)=if ((dB c (i+1):Nat):Int)>(du c i:Int) then ((dB c (i+1):Nat):Int) else (du c i:Int):=by
    rw[show dB c (i+1)=aZ c i from rfl];rw[show du c (i+1)=if du c i<aZ c i then aZ c i else du c i by rw[du]];by_cases hlt:du c i<aZ c i
    . rw[if_pos hlt,if_pos (by omega)]
    rw[if_neg hlt,if_neg (by omega)]
   have hrb:dB c i<=i/\dB c (i+1)<=i+1:=by
    refine ⟨?_,(il c i).2.1⟩;rw[dB];split
    . omega
    have:=(il c (i-1)).2.1;omega
   have hmb:du c i<=c.length:=by
    have key:∀n,du c n<=n:=λn=>by
     induction n with
     |zero=>unfold du;omega
     |succ n ih=>rw[du];have:=(il c n).2.1;split<;>omega
    have:=key i;omega
   have e1:=hel i hi;have gi:=get_some hi;have li:=aE hi;clear hF hI;generalize du c i=M at hM hmb;generalize du c (i+1)=M' at hM;by_cases hi0:0<i
   rotate_left
   . have g3:decide ((i:Int)>0)=false:=(by simp;omega);have hR:dB c i=0/\dB c (i+1)=1:=by
      have e0:i=0:=(by omega);subst e0;exact ⟨rfl,by show aZ c 0=1;unfold aZ;rfl⟩
     have hs:cw m c i=true:=by have e0:i=0:=(by omega);subst e0;rfl
     rw[hR.1,hR.2];rw[hR.2] at hM;clear hR hrb no;have yes:=yes hs;simp -dsimp -implicitDefEqProofs only[pz,cm,fu,e8,↓reduceIte,eZ];rw[hM];simp -dsimp -implicitDefEqProofs only[go_sem,li]
     repeat' first
      |(with_reducible refine ai ?_ ?_)
      |(refine aj.draw mixed rfl ?_;try simp -dsimp -implicitDefEqProofs only[go_sem,g3])
     all_goals (first|(refine ⟨?_,?_⟩<;>omega)|(simp;done)|rfl|(simp_all;done)|skip)
   have hi':i-1<c.length:=(by omega);have e2:=hel (i-1) hi';have g2:c[((i:Int)-1).toNat]? =some c[i-1]:=(by rw[pred_toNat hi0];exact get_some hi');have g3:decide ((i:Int)>0)=true:=(by simp;omega);have hs:cw m c i=decide (fm (c[i]-c[i-1])<=m.step):=by rw[cw,show (i==0)=false by simp;omega];simp[uq4,hi,hi']
   have hR:((dB c (i+1):Nat):Int)=if (c[i]==c[i-1])=true then (dB c i:Int)+1 else 0+1:=by
    obtain ⟨j,rfl⟩:∃j,i=j+1:=⟨i-1,by omega⟩;rw[show dB c (j+1+1)=aZ c (j+1) from rfl,show dB c (j+1)=aZ c j from rfl,aZ];simp only[Nat.add_sub_cancel];have q1:c.getD (j+1) 0=c[j+1]:=(by simp[uq4,hi]);have q2:c.getD j 0=c[j]:=(by simp[uq4,show j<c.length by omega]);rw[q1,q2];by_cases hq:c[j+1]=c[j]
    . rw[if_pos hq,if_pos (by simpa using hq)];simp
    rw[if_neg hq,if_neg (by simpa using hq)];simp
   rw[hs] at no yes;have yes':decide (fm (c[i]-c[i-1])>m.step)=false->(a_ (i+1)).all (cw m c)=true:=λh=>yes (dT (by have:=of_decide_eq_false h;omega));have no':decide (fm (c[i]-c[i-1])>m.step)=true->fault m c=3:=λh=>no (dF (by have:=oT h;omega));have hab:fm (c[i]-c[i-1])<=7:=(by unfold fm;split<;>omega);have Y5:0<=fm (c[i]-c[i-1]):=(by unfold fm;split<;>omega);generalize dB c i=R at hR hrb;generalize dB c (i+1)=R' at hR hrb hM;clear hs;simp -dsimp -implicitDefEqProofs only[pz,cm,fu,e8,↓reduceIte,eZ];rw[hM];clear hM;rw[hR];simp -dsimp -implicitDefEqProofs only[go_sem,li]
   repeat' first
    |(refine Br.intro (λ_=>?_) (λ_=>?_)<;>try simp -dsimp -implicitDefEqProofs only[go_sem, *])
    |(with_reducible refine ai ?_ ?_)
    |(refine aj.draw mixed rfl ?_;try simp -dsimp -implicitDefEqProofs only[go_sem,gi,g2,g3])
    |(refine an (F1 _ (by omega)) ?_;try simp -dsimp -implicitDefEqProofs only[go_sem, *])
   all_goals first
    |(rw[←ba];exact yes' (by assumption))
    |(first|omega|(refine ⟨?_,?_⟩<;>omega)|(simp;done)|rfl|(simp_all;done)|skip)
 have hMl:=Mv c m.same (by omega) c.length;rw[hI,if_neg (by decide)] at hF;rw[hF];clear hF hel hI;rcases hq:((a_ c.length).all λi=>decide ((aZ c i:Int)<=m.same)) with _|_
 all_goals
  rw[hq] at hMl;clear hq;by_cases hk:(bg c c.length:Int)<m.least
 all_goals
  have hk':=hk;first|rw[if_pos hk]|rw[if_neg hk]
  (replace hk':=dT hk');clear hk;simp -dsimp -implicitDefEqProofs only[go_sem,aA,hMl]
  repeat' first
   |(refine Br.intro (λ_=>?_) (λ_=>?_)<;>try simp -dsimp -implicitDefEqProofs only[go_sem, *])
   |(with_reducible refine ai ?_ ?_)
   |(refine aj.draw mixed rfl ?_;try simp -dsimp -implicitDefEqProofs only[go_sem])
   |(refine an (re c h) ?_;try simp -dsimp -implicitDefEqProofs only[go_sem, *])
  all_goals (first|rfl|(simp_all;omega)|skip)
theorem yI (m:aJ)(c:lI)(hm:aU m=true)(h:c.length<=1048576):Fn pG 90 [kj m,aM c] true (· =eI (fault m c)):=by
 refine Fn.au 55 [.tmp 4] func90 (hv:=?_);rcases hl:((c.length:Int)==m.ae) with _|_
 . have hF:fault m c=1:=(by rw [fault,if_pos (by simpa using hl)]);rw [hF];simp -dsimp -implicitDefEqProofs only [go_sem];repeat' (refine Br.intro (λ_=> ?_) (λ_=> ?_)<;>try simp -dsimp -implicitDefEqProofs only [go_sem, *])
   all_goals (first|(simp_all;done)|skip)
 have hle:¬(c.length:Int)≠m.ae:=by simpa using hl
 have hc:=IM m c hm h;rcases ha:(c.all λx=>bA x 0 (m.ak-1)) with _|_
 . have hF:fault m c=2:=(by rw [fault,if_neg hle,if_pos ha]);rw [ha,hl] at hc;rw [hF];clear hF ha hle;simp -dsimp -implicitDefEqProofs only [go_sem]
   repeat' first
    |(refine Br.intro (λ_=>?_) (λ_=>?_)<;>try simp -dsimp -implicitDefEqProofs only[go_sem, *])
    |(refine aa (hc) ?_;try simp -dsimp -implicitDefEqProofs only[go_sem, *])
   all_goals (first|(simp_all;done)|skip)
 have hF:fault m c=if ((a_ c.length).all (cw m c))=false then 3 else if ((a_ c.length).all λi=>decide ((aZ c i:Int)<=m.same))=false then 4 else if (bg c c.length:Int)<m.least then 5 else 0:=by rw[fault,if_neg hle,if_neg (by simp[ha])]
 rw[ha,hl] at hc;have hel:=Kg hm ha;have hsm:=kF hm;have hkl:=jq c c.length;have hch:2<=c.length/\c.length<=6:=by have:=aI hm;omega
 clear ha hle;simp -dsimp -implicitDefEqProofs only[go_sem]
 repeat' first
  |(refine Br.intro (λ_=>?_) (λ_=>?_)<;>try simp -dsimp -implicitDefEqProofs only[go_sem, *])
  |(refine aa (hc) ?_;try simp -dsimp -implicitDefEqProofs only[go_sem, *])
 all_goals try ((simp_all;done))
 clear hl hc;refine aj.up [1,2] [18,32] [] (c.length-1) (λi=>(a_ (i+1)).all (cw m c)) (λi=>[(5,eI ((i+1:Nat):Int))]) (λ_=>[]) (by simp[cw]) ?_ rfl (λi hi hI=>?_) (λhI=>?_)
 . simp -dsimp -implicitDefEqProofs only[go_sem];all_goals (first|(simp;done)|skip)
 . have hi1:i+1<c.length:=(by omega);have hi0:i<c.length:=(by omega);have no:cw m c (i+1)=false->fault m c=3:=λh=>by rw [hF,if_pos (b8 hi1 h)]
   have yes:cw m c (i+1)=true->(a_ (i+1+1)).all (cw m c)=true:=λh=>by rw[bj,hI,h];rfl
   have e1:=hel i hi0;have e2:=hel (i+1) hi1;have g1:=get_some hi1;have g2:c[(((i+1:Nat):Int)-1).toNat]? =some c[i]:=(by rw[show (((i+1:Nat):Int)-1).toNat=i by omega];exact get_some hi0);have li:=aE hi1;have hs:cw m c (i+1)=decide (fm (c[i+1]-c[i])<=m.step):=by rw[cw,show (i+1==0)=false by simp];simp[uq4,hi0,hi1]
   rw[hs] at no yes;have yes':decide (fm (c[i+1]-c[i])>m.step)=false->(a_ (i+1+1)).all (cw m c)=true:=λh=>yes (dT (by have:=of_decide_eq_false h;omega));have no':decide (fm (c[i+1]-c[i])>m.step)=true->fault m c=3:=λh=>no (dF (by have:=oT h;omega));have hab:fm (c[i+1]-c[i])<=7:=(by unfold fm;split<;>omega);have Y5:0<=fm (c[i+1]-c[i]):=(by unfold fm;split<;>omega);clear hF hI hs;simp -dsimp -implicitDefEqProofs only[go_sem,li]
   repeat' first
    |(refine Br.intro (λ_=>?_) (λ_=>?_)<;>try simp -dsimp -implicitDefEqProofs only[go_sem, *])
    |(with_reducible refine ai ?_ ?_)
    |(refine aj.draw mixed rfl ?_;try simp -dsimp -implicitDefEqProofs only[go_sem,g1,g2])
    |(refine an (jr _ (by omega)) ?_;try simp -dsimp -implicitDefEqProofs only[go_sem, *])
   all_goals first
    |(simp only[ba] at yes' ⊢;exact yes' (by assumption))
    |(first|omega|(refine ⟨?_,?_⟩<;>omega)|(simp;done)|rfl|skip)
 have hcl:c.length-1+1=c.length:=by omega
 rw[hcl] at hI ⊢;rw[hI,if_neg (by decide)] at hF;clear hel hI hcl;simp -dsimp -implicitDefEqProofs only[go_sem,aA];refine aj.up [1,2,37] [45] [] c.length (λi=>(a_ i).all λi=>decide ((aZ c i:Int)<=m.same)) (λi=>[(38,eI i)]) (λ_=>[]) (by simp) ?_ rfl (λi hi hI=>?_) (λhI=>?_)
 . simp -dsimp -implicitDefEqProofs only[go_sem]
 . have no:decide ((aZ c i:Int)<=m.same)=false->fault m c=4:=λh=>by rw [hF,if_pos (b8 (p:=λi=>decide ((aZ c i:Int)<=m.same)) hi h)]
   have yes:decide ((aZ c i:Int)<=m.same)=true->((a_ (i+1)).all λi=>decide ((aZ c i:Int)<=m.same))=true:=λh=>by rw[bj,hI,h];rfl
   have yes':decide ((aZ c i:Int)>m.same)=false->((a_ (i+1)).all λi=>decide ((aZ c i:Int)<=m.same))=true:=λh=>yes (dT (by have:=of_decide_eq_false h;omega));have no':decide ((aZ c i:Int)>m.same)=true->fault m c=4:=λh=>no (dF (by have:=oT h;omega));have hrl:=(il c i).2.1;have hcr:=kE (c.take (i+1)) (by simp;omega) (by simp;omega);have hll:(c.take (i+1)).length-1=i:=(by simp;omega);rw[hll,yG c (i+1) i (by omega)] at hcr;have li:=aE hi;have e3:((i:Int)+1).toNat=i+1:=(by omega);clear hF hI no yes hll;simp -dsimp -implicitDefEqProofs only[go_sem,li]
   repeat' first
    |(refine Br.intro (λ_=>?_) (λ_=>?_)<;>try simp -dsimp -implicitDefEqProofs only[go_sem, *])
    |(with_reducible refine ai ?_ ?_)
    |(refine aj.draw mixed rfl ?_;try simp -dsimp -implicitDefEqProofs only[go_sem,e3])
    |(rw[←uq9];refine an hcr ?_;try simp -dsimp -implicitDefEqProofs only[go_sem, *])
   all_goals first
    |(rw[←ba];exact yes' (by assumption))
    |(first|omega|(refine ⟨?_,?_⟩<;>omega)|(simp;done)|rfl|skip)
 rw[hI,if_neg (by decide)] at hF;rw[hF];clear hF hI;by_cases hk:(bg c c.length:Int)<m.least
 all_goals
  have hk':=hk;first|rw[if_pos hk]|rw[if_neg hk]
  (replace hk':=dT hk');clear hk;simp -dsimp -implicitDefEqProofs only[go_sem,aA]
  repeat' first
   |(refine Br.intro (λ_=>?_) (λ_=>?_)<;>try simp -dsimp -implicitDefEqProofs only[go_sem, *])
   |(with_reducible refine ai ?_ ?_)
   |(refine aj.draw mixed rfl ?_;try simp -dsimp -implicitDefEqProofs only[go_sem])
   |(refine an (iE c h) ?_;try simp -dsimp -implicitDefEqProofs only[go_sem, *])
  all_goals (first|rfl|(simp_all;omega)|skip)
def fD (m:aJ)(c:lI):Bool:=fault m c==0
theorem Df (m:aJ)(c:lI)(hm:aU m=true)(h:c.length<=1048576):Fn pG 76 [kj m,aM c] true (· =eB (fD m c)):=by
 refine Fn.au 9 [.tmp 4] func76 (hv:=?_);simp -dsimp -implicitDefEqProofs only[go_sem];repeat' (refine aa (yI m c hm h) ?_;try simp -dsimp -implicitDefEqProofs only[go_sem, *])
 all_goals first|rfl|skip
theorem BZ (m:aJ)(ks:lL)(hm:aU m=true)(h:ks.length<=1048576)(h2:∀x∈ks,x.length<=1048576):Fn pG 52 [kj m,aQ ks] true (· =eB (ks.all (fD m)&&decide ((ks.length:Int)<=300))):=by
 refine Fn.au 22 [.tmp 4] func52 (hv:=?_);simp -dsimp -implicitDefEqProofs only[go_sem];refine aj.up [1,2] [8,17] [] ks.length (λi=>(ks.take i).all (fD m)) (λi=>[(5,eI i)]) (λ_=>[]) (by simp) ?_ rfl (λi hi hI=>?_) (λhI=>?_)
 . simp -dsimp -implicitDefEqProofs only[go_sem]
 . have gi:=get_some hi;have li:=aE hi;have no:fD m ks[i]=false->ks.all (fD m)=false:=λh=>gQ hi h;have yes:fD m ks[i]=true->(ks.take (i+1)).all (fD m)=true:=λh=>by rw [dA _ _ _ hi,hI,h];rfl
   have yes':(fault m ks[i] != 0)=false->(ks.take (i+1)).all (fD m)=true:=λh=>yes (by simpa [fD] using h);have no':(fault m ks[i] != 0)=true->ks.all (fD m)=false:=λh=>no (by simpa [fD] using h);have hc:=nH m ks[i] hm (h2 _ (uq6 hi));clear no yes hI;simp -dsimp -implicitDefEqProofs only[go_sem,li]
   repeat' first
    |(refine Br.intro (λ_=>?_) (λ_=>?_)<;>try simp -dsimp -implicitDefEqProofs only[go_sem, *])
    |(with_reducible refine ai ?_ ?_)
    |(refine aj.draw mixed rfl ?_;try simp -dsimp -implicitDefEqProofs only[go_sem,gi])
    |(refine an (hc) ?_;try simp -dsimp -implicitDefEqProofs only[go_sem, *])
   all_goals (first|omega|(refine ⟨?_,?_⟩<;>omega)|(simp;done)|rfl|skip)
 rw[cE] at hI;rw[hI];simp -dsimp -implicitDefEqProofs only[go_sem,aA]
set_option maxHeartbeats 4000000 in
theorem tW (m:aJ)(ks:lL)(hm:aU m=true)(h:ks.length<=1048576)(h2:∀x∈ks,x.length<=1048576):Fn pG 50 [kj m,aQ ks] true (· =eB (ks.all (fD m))):=by
 refine Fn.au 9 [.tmp 4] func50 (hv:=?_);have zx:(∀i (hi:i<ks.length),fD m ks[i]=true)->ks.all (fD m)=true:=λh=>uq1.2 λx hx=>by obtain ⟨i,hi,rfl⟩:=List.getElem_of_mem hx;exact h i hi
 have hno:∀i (hi:i<ks.length),fD m ks[i]=false->ks.all (fD m)=false:=λi hi h=>gQ hi h;generalize ks.all (fD m)=ok at zx hno;simp -dsimp -implicitDefEqProofs only[go_sem];refine bJ 400000 9 [.tmp 4] func74 rfl rfl rfl rfl rfl (by exact oT rfl) ?_;simp -dsimp -implicitDefEqProofs only[go_sem];refine bJ 410000 19 [.tmp 4] func89 rfl rfl rfl rfl rfl (by exact oT rfl) ?_;simp -dsimp -implicitDefEqProofs only[go_sem];refine aj.up [0,1,7] [16] [] ks.length (λi=>∀j (hj:j<ks.length),j<i->fD m ks[j]=true) (λi=>[(8,eI i)]) (λ_=>[]) (λj _ h=>absurd h (Nat.not_lt_zero _)) ?_ rfl (λi hi hI=>?_) (λhI=>?_)
 . simp -dsimp -implicitDefEqProofs only[go_sem]
 . have gi:=get_some hi;have li:=aE hi;have hc:=Df m ks[i] hm (h2 _ (uq6 hi));rcases hv:fD m ks[i] with _|_
   . rw [hv] at hc;have hn:=hno i hi hv;clear hno zx hI hv;subst hn;simp -dsimp -implicitDefEqProofs only [go_sem,gi,li];refine ⟨⟨by omega,by omega⟩,?_⟩;refine bJ 420000 8 [.tmp 3] func75 rfl rfl rfl rfl rfl (by exact oT rfl) ?_;simp -dsimp -implicitDefEqProofs only [go_sem];repeat' (refine aa (hc) ?_;try simp -dsimp -implicitDefEqProofs only [go_sem, *])
     (all_goals try first|exact rfl|(simp;done))
   rw [hv] at hc;have hI':∀j (hj:j<ks.length),j<i+1->fD m ks[j]=true:=λj hj h=>by
    by_cases hji:j=i
    . subst hji;exact hv
    exact hI j hj (by omega)
   clear hno zx hI hv;simp -dsimp -implicitDefEqProofs only[go_sem,gi,li];refine ⟨⟨by omega,by omega⟩,?_⟩;refine bJ 420000 8 [.tmp 3] func75 rfl rfl rfl rfl rfl (by exact oT rfl) ?_;simp -dsimp -implicitDefEqProofs only[go_sem]
   repeat' first
    |(with_reducible refine ai ?_ ?_)
    |(refine aa (hc) ?_;try simp -dsimp -implicitDefEqProofs only[go_sem, *])
   (all_goals try first|omega|(refine ⟨?_,?_⟩<;>omega)|exact rfl|(simp;done))
 have hn:=zx λj hj=>hI j hj hj;clear hno zx hI;subst hn;simp -dsimp -implicitDefEqProofs only[go_sem,aA];(all_goals try first|exact rfl|(simp;done))
def fS (m:aJ)(a k:lL):Bool:=aU m&&(((a.length:Int)==0)||iJ a)&&((k.length:Int)==(a.length:Int))&&k.all (fD m)
abbrev Nx (m:aJ)(a k:lL):AV:=.agg [eI m.ae,eI m.ak,eI m.step,eI m.same,eI m.least,aQ a,aQ k]
theorem tX (m:aJ)(a k:lL)(h:a.length<=1048576)(h2:∀x∈a,x.length<=1048576)(h3:k.length<=1048576)(h4:∀x∈k,x.length<=1048576):Fn pG 23 [Nx m a k] true (· =eB (fS m a k)):=by
 refine Fn.au 33 [.tmp 2] func23 (hv:=?_);rcases hm:aU m with _|_
 . have hF:fS m a k=false:=(by rw[fS,hm];rfl);rw[hF];simp -dsimp -implicitDefEqProofs only[go_sem];repeat' (refine aa (eV m) ?_;try simp -dsimp -implicitDefEqProofs only[go_sem, *])
 have hF:fS m a k=((((a.length:Int)==0)||iJ a)&&((k.length:Int)==(a.length:Int))&&k.all (fD m)):=by rw[fS,hm];rfl
 rw[hF];clear hF;simp -dsimp -implicitDefEqProofs only[go_sem]
 repeat' first
  |(refine Br.intro (λ_=>?_) (λ_=>?_)<;>try simp -dsimp -implicitDefEqProofs only[go_sem, *])
  |(refine aa (eV m) ?_;try simp -dsimp -implicitDefEqProofs only[go_sem, *])
  |(refine aa (q_ a h h2) ?_;try simp -dsimp -implicitDefEqProofs only[go_sem, *])
  |(refine aa (tW m k hm h3 h4) ?_;try simp -dsimp -implicitDefEqProofs only[go_sem, *])
theorem B0 (m:aJ)(a k:lL)(h:a.length<=1048576)(h2:∀x∈a,x.length<=1048576)(h3:k.length<=1048576)(h4:∀x∈k,x.length<=1048576):Fn pG 24 [Nx m a k] true (· =eB (fS m a k)):=by
 refine Fn.au 33 [.tmp 2] func24 (hv:=?_);rcases hm:aU m with _|_
 . have hF:fS m a k=false:=(by rw[fS,hm];rfl);rw[hF];simp -dsimp -implicitDefEqProofs only[go_sem];repeat' (refine aa (fC m) ?_;try simp -dsimp -implicitDefEqProofs only[go_sem, *])
 have hF:fS m a k=((((a.length:Int)==0)||iJ a)&&((k.length:Int)==(a.length:Int))&&k.all (fD m)):=by rw[fS,hm];rfl
 rw[hF];have hq:iJ a=true->a.length<=10:=λh=>(mS h).2.1;clear hF;simp -dsimp -implicitDefEqProofs only[go_sem]
 repeat' first
  |(refine Br.intro (λ_=>?_) (λ_=>?_)<;>try simp -dsimp -implicitDefEqProofs only[go_sem, *])
  |(refine aa (fC m) ?_;try simp -dsimp -implicitDefEqProofs only[go_sem, *])
  |(refine aa (ra a h h2) ?_;try simp -dsimp -implicitDefEqProofs only[go_sem, *])
  |(refine aa (BZ m k hm h3 h4) ?_;try simp -dsimp -implicitDefEqProofs only[go_sem, *])
 all_goals first
  |(rename_i hA hB
    have hA':(k.length:Int)=a.length:=(by simpa [bne] using hA);rcases cP:k.all (fD m) with _|_
    . simp
    rw[cP,Bool.true_and] at hB;have hB':¬(k.length:Int)<=300:=(by simpa using hB);have h1:iJ a=false:=(by rw[Bool.eq_false_iff];intro hh;have:=hq hh;omega);have h0:((a.length:Int)==0)=false:=(by rw[beq_eq_false_iff_ne];omega)
    rw[h1,h0];rfl)
  |(first|(simp_all;done)|skip)
def j3 (keys:lL)(i:Nat)(d:Nat):Bool:=keys.any λk=>k.getD i 0==(d:Int)
def jG (m:aJ)(keys:lL)(i:Nat):lI:=v7 (j3 keys i) m.ak.toNat
def km (m:aJ)(keys:lL)(n:Nat):lL:=(a_ n).map (jG m keys)
theorem B1 (m:aJ)(keys:lL)(n:Nat):km m keys (n+1)=km m keys n++[jG m keys n]:=by simp[km,ba]
theorem B2 (m:aJ)(keys:lL):km m keys 0=[]:=rfl
theorem ph (m:aJ)(keys:lL)(n:Nat):(km m keys n).length=n:=by simp[km]
theorem F2 (m:aJ)(keys:lL)(i:Nat):(jG m keys i).length<=m.ak.toNat:=p6 _ _
theorem Mw (m:aJ)(keys:lL)(n:Nat):∀x∈km m keys n,x.length<=m.ak.toNat:=λx hx=>by simp only[km,List.mem_map] at hx;obtain ⟨i,_,rfl⟩:=hx;exact F2 _ _ _
theorem yJ:∀{xs ys:lI},xs.Pairwise (· < ·)->ys.Pairwise (· < ·)->(∀x,x∈xs↔x∈ys)->xs=ys
 | [],[],_,_,_=>rfl
 | [],y::ys,_,_,h=>absurd ((h y).2 (dL ..)) (by simp)
 |x::xs,[],_,_,h=>absurd ((h x).1 (dL ..)) (by simp)
 |x::xs,y::ys,h1,h2,h=>by
  obtain ⟨g1,g2⟩:=List.pairwise_cons.1 h1;obtain ⟨k1,k2⟩:=List.pairwise_cons.1 h2;have e:x=y:=by
   rcases List.mem_cons.1 ((h x).1 (dL ..)) with e|e
   . exact e
   rcases List.mem_cons.1 ((h y).2 (dL ..)) with e'|e'
   . exact e'.symm
   have:=k1 x e;have:=g1 y e';omega
  subst e
  have hr:∀z,z∈xs↔z∈ys:=λz=>⟨λhz=>by
   rcases List.mem_cons.1 ((h z).1 (List.mem_cons_of_mem _ hz)) with e|e
   . have:=g1 z hz;omega
   . exact e,λhz=>by
   rcases List.mem_cons.1 ((h z).2 (List.mem_cons_of_mem _ hz)) with e|e
   . have:=k1 z hz;omega
   exact e⟩
  rw[yJ g2 k2 hr]
theorem sW (p:Nat->Bool):∀n,(v7 p n).Pairwise (· < ·)
 |0=>by rw[pd];exact List.Pairwise.nil
 |n+1=>by
  rw[mR];split
  . refine List.pairwise_append.2 ⟨sW p n,List.pairwise_singleton ..,λa ha b hb=>?_⟩;obtain ⟨j,hj,rfl,_⟩:=sR ha;simp only[cM] at hb;omega
  exact sW p n
theorem rf {p:Nat->Bool}{n j:Nat}(hj:j<n)(hp:p j=true):(j:Int)∈v7 p n:=by
 induction n with
 |zero=>omega
 |succ n ih=>
  rw[mR];by_cases e:j=n
  . subst e;rw[if_pos hp];simp
  have:=ih (by omega);split
  . exact List.mem_append_left _ this
  exact this
theorem Mx {xs:lI}{p:Nat->Bool}{D:Nat}(h:∀x∈xs,∃j:Nat,j<D/\x=(j:Int))(hp:∀j,j<D->(p j=true↔(j:Int)∈xs)):vA xs=v7 p D:=by
 refine yJ (IF xs) (sW p D) λx=>?_;rw[Mq];constructor
 . intro hx;obtain ⟨j,hj,rfl⟩:=h x hx;exact rf hj ((hp j hj).2 hx)
 intro hx;obtain ⟨j,hj,rfl,h2⟩:=sR hx;exact (hp j hj).1 h2
theorem IN {m:aJ}{keys:lL}{i:Nat}(h:∀k∈keys,0<=k.getD i 0/\k.getD i 0<m.ak):vA (keys.map λk=>k.getD i 0)=jG m keys i:=by
 refine Mx (λx hx=>?_) λj _=>?_
 . obtain ⟨k,hk,rfl⟩:=List.mem_map.1 hx;have:=h k hk;exact ⟨(k.getD i 0).toNat,by omega,by omega⟩
 simp only[j3,List.any_eq_true,List.mem_map,beq_iff_eq]
def js (t ab:lL)(k:Nat):Nat->lL
 |0=>[]
 |i+1=>if ((t.getD i []).getD k 0==1)=true then js t ab k i++[ab.getD i []] else js t ab k i
theorem My (t ab:lL)(k:Nat):js t ab k 0=[]:=rfl
theorem gL (t ab:lL)(k i:Nat):js t ab k (i+1)=if ((t.getD i []).getD k 0==1)=true then js t ab k i++[ab.getD i []] else js t ab k i:=rfl
theorem sX (t ab:lL)(k:Nat):∀i,(js t ab k i).length<=i
 |0=>bw _
 |i+1=>by
  have:=sX t ab k i;rw[gL];split
  . simp;omega
  omega
theorem yK {t ab:lL}{k:Nat}:∀{i:Nat},i<=ab.length->∀x∈js t ab k i,x∈ab
 |0,_,x,hx=>by cases hx
 |i+1,hi,x,hx=>by
  have ih:=yK (t:=t) (ab:=ab) (k:=k) (i:=i) (by omega);rw[gL] at hx;split at hx
  . rcases bk.1 hx with h|h
    . exact ih x h
    simp only[cM] at h;subst h;rw[uq4,uq5 (by omega)];exact uq6 _
  exact ih x hx
def bQ (m:aJ)(t ab:lL)(k:Nat):lL:=km m (js t ab k ab.length) m.ae.toNat
theorem kZ (m:aJ)(t ab:lL)(k:Nat):(bQ m t ab k).length=m.ae.toNat:=ph _ _ _
theorem iF (m:aJ)(t ab:lL)(k:Nat):∀x∈bQ m t ab k,x.length<=m.ak.toNat:=Mw _ _ _
def ay (m:aJ)(t ab:lL)(n:Nat):List lL:=(a_ n).map (bQ m t ab)
theorem sY (m:aJ)(t ab:lL):ay m t ab 0=[]:=rfl
theorem sZ (m:aJ)(t ab:lL)(n:Nat):ay m t ab (n+1)=ay m t ab n++[bQ m t ab n]:=by simp[ay,ba]
theorem dP (m:aJ)(t ab:lL)(n:Nat):(ay m t ab n).length=n:=by simp[ay]
theorem jT (m:aJ)(t ab:lL){n k:Nat}(h:k<n):(ay m t ab n)[k]? =some (bQ m t ab k):=by simp[ay,h]
def dX (l:lL)(c:lI):Bool:=(a_ c.length).all λi=>has (l.getD i []) (c.getD i 0)
def ow (m:aJ)(t ab:lL)(i:Nat):Nat->lL
 |0=>[]
 |k+1=>if (((t.getD i []).getD k 0==0)&&dX (bQ m t ab k) (ab.getD i []))=true then ow m t ab i k++[[(i:Int),(k:Int)]] else ow m t ab i k
theorem B3 (m:aJ)(t ab:lL)(i:Nat):ow m t ab i 0=[]:=rfl
theorem p7 (m:aJ)(t ab:lL)(i k:Nat):ow m t ab i (k+1)=if (((t.getD i []).getD k 0==0)&&dX (bQ m t ab k) (ab.getD i []))=true then ow m t ab i k++[[(i:Int),(k:Int)]] else ow m t ab i k:=rfl
theorem s0 (m:aJ)(t ab:lL)(i:Nat):∀k,(ow m t ab i k).length<=k
 |0=>bw _
 |k+1=>by
  have:=s0 m t ab i k;rw[p7];split
  . simp;omega
  omega
def jU (m:aJ)(t ab:lL):Nat->lL
 |0=>[]
 |i+1=>jU m t ab i++ow m t ab i (t.getD 0 []).length
theorem yL (m:aJ)(t ab:lL):jU m t ab 0=[]:=rfl
theorem nI (m:aJ)(t ab:lL)(i:Nat):jU m t ab (i+1)=jU m t ab i++ow m t ab i (t.getD 0 []).length:=rfl
theorem kG (m:aJ)(t ab:lL):∀i,(jU m t ab i).length<=i*(t.getD 0 []).length
 |0=>Nat.zero_le _
 |i+1=>by have:=kG m t ab i;have:=s0 m t ab i (t.getD 0 []).length;rw[nI,uq7,Nat.succ_mul];omega
def gR (m:aJ)(t ab:lL):lL:=jU m t ab ab.length
def dY (m:aJ)(t ab:lL):Bool:=(ab.length==t.length)&&ab.all (fD m)
def bV (m:aJ)(t ab:lL):Int:=if eX m t then (if dY m t ab then 0 else 2) else 1
def bh (m:aJ)(t ab:lL):Bool:=eX m t&&dY m t ab&&(gR m t ab).isEmpty
abbrev qi (ls:List lL):AV:=.arr ⟨1,true⟩ (ls.map sT)
theorem aY {α β:Type}(f:α->β)(l:List α)(n:Nat)(h:l.length<=n):(l.map f).take n=l.map f:=b7 (by simpa using h)
theorem Mz (m:aJ)(keys:lL)(hm:aU m=true)(h0:keys.length<=1048576)(hk3:∀k∈keys,(k.length:Int)=m.ae):
 Fn pG 244 [kj m,aQ keys] false (· =sT (km m keys m.ae.toNat)):=by
 have ⟨⟨n1,n2⟩,n3,n4⟩:=aI hm;refine Fn.bP 54 [.cell 4 121] func244 (hv:=?_);simp -dsimp -implicitDefEqProofs only[go_sem];refine aj.up [1,2,4] [18,27,46,47,50,51] [11] m.ae.toNat (λ_=>True) (λi=>[(6,eI i),(5,.ref 11 0 0 i)]) (λi=>[(11,.row 0 ⟨1,false⟩ (i==0) ((km m keys i).map aM))]) trivial ?_ rfl (λi hi _=>?_) (λ_=>?_)
 . simp -dsimp -implicitDefEqProofs only[go_sem,B2]
 . have hlt:decide ((i:Int)<m.ae)=true:=dT (by omega);have hhl:=ph m keys i;rw [B1];unfold jG;generalize km m keys i=H at*;simp -dsimp -implicitDefEqProofs only [go_sem,hlt];refine aj.up [1,2,4,5,6] [27,46,47] [18] m.ak.toNat (λ_=>True) (λd=>[(8,eI d),(7,.ref 18 0 0 (v7 (j3 keys i) d).length)]) (λd=>[(18,.row 0 ⟨1,false⟩ true ((v7 (j3 keys i) d).map eI))]) trivial ?_ rfl (λd hd _=> ?_) (λ_=> ?_)
   . simp -dsimp -implicitDefEqProofs only[go_sem,pd]
   . have Wk:decide ((d:Int)<m.ak)=true:=dT (by omega);have hfl:=p6 (j3 keys i) d;rw [mR];have XT:j3 keys i d=(keys.take keys.length).any λx=>x.getD i 0==(d:Int):=(by rw [cE];rfl);rw [XT];clear XT;generalize v7 (j3 keys i) d=F at*;simp -dsimp -implicitDefEqProofs only [go_sem,Wk];refine aj.up [1,2,4,5,6,7,8] [27] [] keys.length (λ_=>True) (λk=>[(10,eI k),(9,eB ((keys.take k).any λx=>x.getD i 0==(d:Int)))]) (λ_=>[]) trivial ?_ rfl (λk hk' _=> ?_) (λ_=> ?_)
     . simp -dsimp -implicitDefEqProofs only[go_sem];exact rfl
     . have hkl:i<keys[k].length:=(by have:=hk3 _ (uq6 hk');omega);have gk:=get_some hk';have gi:=get_some hkl;have hgd:keys[k].getD i 0=keys[k][i]:=(by simp [uq4,hkl]);rw [yE _ _ _ hk',hgd];have lk:=aE hk';generalize keys[k]=x at*;generalize x[i]=z at*;generalize ((keys.take k).any λx=>x.getD i 0==(d:Int))=b at*;simp -dsimp -implicitDefEqProofs only [pz,cm,fu,e8,↓reduceIte,eZ];cases b<;>simp -dsimp -implicitDefEqProofs only [go_sem,lk,gk,gi]
       . exact ⟨⟨by omega,by omega⟩,⟨by omega,by omega⟩,⟨by omega,by omega⟩,rfl⟩
       exact ⟨⟨by omega,by omega⟩,rfl⟩
     generalize ((keys.take keys.length).any λx=>x.getD i 0==(d:Int))=b at*;simp -dsimp -implicitDefEqProofs only[pz,cm,fu,e8,↓reduceIte,eZ];cases b<;>simp -dsimp -implicitDefEqProofs only[go_sem,aA]
     . exact ⟨⟨by omega,by omega⟩,rfl⟩
     exact ⟨by omega,⟨by omega,by omega⟩,rfl,by simp⟩
   have Wk:decide (((m.ak.toNat:Nat):Int)<m.ak)=false:=dF (by omega);have hfl:=p6 (j3 keys i) m.ak.toNat;generalize v7 (j3 keys i) m.ak.toNat=F at*;have htk:bp F.length (uq8 eI F)=uq8 eI F:=b7 (by simp);have Ra:bp i (uq8 aM H)=uq8 aM H:=b7 (by simp;omega);have e2:uq8 aM (H++[F])=uq8 aM H++[aM F]:=(by simp);have e0:(i+1==0)=false:=rfl;simp -dsimp -implicitDefEqProofs only[go_sem,Wk];refine .inr ⟨by omega,by omega,(by cases i with|zero=>exact .inr rfl|succ i=>exact .inl rfl),⟨by omega,by omega⟩,rfl,?_⟩;rw[e0,e2];simp -dsimp -implicitDefEqProofs only[go_sem,Ra]
 have hlt:decide (((m.ae.toNat:Nat):Int)<m.ae)=false:=dF (by omega);have hhl:=ph m keys m.ae.toNat;generalize km m keys m.ae.toNat=H at*;have htk:=aY aM H m.ae.toNat (by omega);simp -dsimp -implicitDefEqProofs only[go_sem,hlt];((with_reducible and_intros);all_goals try omega);all_goals rw[htk]
theorem MA (m:aJ)(t ab:lL)(k:Nat)(hm:aU m=true)(h0:ab.length<=1048576)(h1:ab.length<=t.length)(hk:∀i (hi:i<t.length),k<t[i].length)(hc:∀x∈ab,(x.length:Int)=m.ae):
 Fn pG 195 [jR m t,aQ ab,eI k] false (· =sT (bQ m t ab k)):=by
 refine Fn.bP 36 [.cell 6 121] func195 (hv:=?_);simp -dsimp -implicitDefEqProofs only[go_sem];refine aj.up [1,2,3,6] [12,30,31] [9] ab.length (λ_=>True) (λi=>[(8,eI i),(7,.ref 9 0 0 (js t ab k i).length)]) (λi=>[(9,.row 0 ⟨1,false⟩ (js t ab k i).isEmpty ((js t ab k i).map aM))]) trivial ?_ rfl (λi hi _=>?_) (λ_=>?_)
 . simp -dsimp -implicitDefEqProofs only[go_sem,My,List.isEmpty_nil]
 . have hit:i<t.length:=(by omega);have hki:=hk i hit;have gi:=get_some hit;have gk:=get_some hki;have gc:=get_some hi;have li:=aE hi;have hp:(t.getD i []).getD k 0=t[i][k]:=(by simp [uq4,hit,hki]);have hcd:ab.getD i []=ab[i]:=(by simp [uq4,hi]);have hon:=sX t ab k i;rw [gL,hp,hcd];generalize js t ab k i=F at*;generalize t[i][k]=z at*;generalize ab[i]=c at*;have htk:=aY aM F F.length (bw _);have e2:uq8 aM (F++[c])=uq8 aM F++[aM c]:=(by simp);have e0:(F++[c]).isEmpty=false:=(by simp);have e1:(F++[c]).length=F.length+1:=(by simp);simp -dsimp -implicitDefEqProofs only [pz,cm,fu,e8,↓reduceIte,eZ];rcases hz:(z==1) with _|_
   . simp -dsimp -implicitDefEqProofs only[go_sem,li,gi,gk,hz];((with_reducible and_intros);all_goals try first|omega|(refine ⟨?_,?_⟩<;>omega)|exact rfl)
   simp only[if_true];simp -dsimp -implicitDefEqProofs only[go_sem,li,gi,gk,gc,hz];((with_reducible and_intros);all_goals try omega);refine .inr ⟨by omega,(by cases F with|nil=>exact .inr rfl|cons=>exact .inl rfl),⟨by omega,by omega⟩,?_⟩;rw[e0,e2];simp -dsimp -implicitDefEqProofs only[go_sem];exact rfl
 have hon:=sX t ab k ab.length;have hmm:∀x∈js t ab k ab.length,(x.length:Int)=m.ae:=λx hx=>hc x (yK (bw _) x hx);have hq:=Mz m (js t ab k ab.length) hm (by omega) hmm;unfold bQ;generalize js t ab k ab.length=F at*;have htk:=aY aM F F.length (bw _);simp -dsimp -implicitDefEqProofs only[go_sem,aA];refine jn 9 0 ⟨1,false⟩ F.isEmpty (uq8 aM F) hq (by decide) ?_ ?_ λr hr=>?_
 . simp -dsimp -implicitDefEqProofs only[go_sem]
 . refine pa ?_ rfl ?_
   . simp -dsimp -implicitDefEqProofs only[go_sem]
   have h:=kD (l:=9) (v:=0) (sh:=⟨1,false⟩) (ys:=uq8 aM F) (xs:=[]) (r:=[]) 0 F.length (by simp) trivial;rw[uq3,htk] at h;exact h
 subst hr;simp -dsimp -implicitDefEqProofs only[go_sem]
theorem k6 (m:aJ)(t ab:lL)(hm:aU m=true)(h0:ab.length<=1048576)(h1:ab.length<=t.length)(h2:0<t.length)(hk:∀i (hi:i<t.length),t[i].length=(t.getD 0 []).length)(hd:(t.getD 0 []).length<=1048576)(hc:∀x∈ab,(x.length:Int)=m.ae):
 Fn pG 145 [jR m t,aQ ab] false (· =qi (ay m t ab (t.getD 0 []).length)):=by
 refine Fn.bP 25 [.tmp 4] func145 (hv:=?_);have g0:=get_some h2;have hg:t.getD 0 []=t[0]:=by simp[uq4,h2]
 rw[hg] at hk hd ⊢;simp -dsimp -implicitDefEqProofs only[go_sem];refine aj.up [1,2] [13,21,22,23] [7] t[0].length (λ_=>True) (λi=>[(6,eI i),(5,.ref 7 0 0 i)]) (λi=>[(7,.row 0 ⟨1,true⟩ (i==0) ((ay m t ab i).map sT))]) trivial ?_ rfl (λi hi _=>?_) (λ_=>?_)
 . simp -dsimp -implicitDefEqProofs only[go_sem,sY]
 . have hq:=MA m t ab i hm h0 h1 (λj hj=>by rw[hk j hj];exact hi) hc;have hll:=dP m t ab i;have li:=aE hi;rw[sZ];generalize ay m t ab i=F at*;generalize bQ m t ab i=L at*;have htk:=aY sT F i (by omega);have e0:(i+1==0)=false:=rfl;have e2:uq8 sT (F++[L])=uq8 sT F++[sT L]:=(by simp);simp -dsimp -implicitDefEqProofs only[go_sem,g0,li];refine ⟨by omega,?_⟩;refine av (hq) (by simp[ax,ao,aq,aF]) ?_;simp -dsimp -implicitDefEqProofs only[go_sem];refine .inr ⟨by omega,by omega,(by cases i with|zero=>exact .inr rfl|succ i=>exact .inl rfl),⟨by omega,by omega⟩,rfl,?_⟩;rw[e0,e2];simp -dsimp -implicitDefEqProofs only[go_sem,htk]
 have hll:=dP m t ab t[0].length;generalize ay m t ab t[0].length=F at*;have htk:=aY sT F t[0].length (by omega);simp -dsimp -implicitDefEqProofs only[go_sem,g0,aA];((with_reducible and_intros);all_goals try omega);all_goals rw[htk]
theorem rh (l:lL)(c:lI)(h0:c.length<=l.length)(h1:l.length<=1048576)(h2:∀x∈l,x.length<=1048576):Fn pG 191 [sT l,aM c] true (· =eB (dX l c)):=by
 refine Fn.au 23 [.tmp 4] func191 (hv:=?_);simp -dsimp -implicitDefEqProofs only[go_sem];refine aj.up [1,2] [8,21] [] c.length (λi=>((a_ i).all λi=>has (l.getD i []) (c.getD i 0))=true) (λi=>[(5,eI i)]) (λ_=>[]) rfl ?_ rfl (λi hi hI=>?_) (λhI=>?_)
 . simp -dsimp -implicitDefEqProofs only[go_sem]
 . have gi:=get_some (show i<l.length by omega);have gc:=get_some hi;have li:=aE hi;have hp:has (l.getD i []) (c.getD i 0)=has l[i] c[i]:=(by simp [uq4,hi,show i<l.length by omega]);have hq:=FV l[i] c[i] (h2 _ (uq6 _));have no:has l[i] c[i]=false->dX l c=false:=λh=>b8 hi (by rw [hp];exact h);have yes:has l[i] c[i]=true->((a_ (i+1)).all λi=>has (l.getD i []) (c.getD i 0))=true:=λh=>by rw [bj,hI,hp,h];rfl
   clear hp hI;generalize l[i]=x at*;generalize c[i]=z at*;simp -dsimp -implicitDefEqProofs only[go_sem,li];refine aj.draw mixed rfl ?_;simp -dsimp -implicitDefEqProofs only[go_sem,gi,gc];((with_reducible and_intros);all_goals try omega);refine an hq ?_;simp -dsimp -implicitDefEqProofs only[go_sem];refine ⟨by exact rfl,?_⟩;rcases hb:has x z with _|_
   . rw[no hb];simp -dsimp -implicitDefEqProofs only[go_sem]
   simp -dsimp -implicitDefEqProofs only[go_sem];refine ⟨⟨by omega,by omega⟩,?_,rfl⟩;rw[←ba];exact yes hb
 simp -dsimp -implicitDefEqProofs only[go_sem,aA];rw[show dX l c=true from hI]
theorem rk (m:aJ)(t ab:lL)(hm:aU m=true)(h0:ab.length<=1000)(h1:ab.length<=t.length)(h2:0<t.length)(hk:∀i (hi:i<t.length),t[i].length=(t.getD 0 []).length)(hd:(t.getD 0 []).length<=1000)(hc:∀x∈ab,(x.length:Int)=m.ae):
 Fn pG 140 [jR m t,aQ ab] false (· =aQ (gR m t ab)):=by
 have ⟨⟨n1,n2⟩,n3,n4⟩:=aI hm;refine Fn.bP 52 [.tmp 4] func140 (hv:=?_);have hq:=k6 m t ab hm (by omega) h1 h2 hk (by omega) hc;simp -dsimp -implicitDefEqProofs only[go_sem];refine av (hq) (by simp[ax,ao,aq,aF]) ?_;clear hq;simp -dsimp -implicitDefEqProofs only[go_sem];have hll:=dP m t ab (t.getD 0 []).length;refine aj.up [1,2,5] [15,21,43,48,49,50] [12] ab.length (λ_=>True) (λi=>[(7,eI i),(6,.ref 12 0 0 (jU m t ab i).length)]) (λi=>[(12,.row 0 ⟨1,false⟩ (jU m t ab i).isEmpty ((jU m t ab i).map aM))]) trivial ?_ rfl (λi hi _=>?_) (λ_=>?_)
 . simp -dsimp -implicitDefEqProofs only[go_sem,yL,List.isEmpty_nil]
 . have hfl:=kG m t ab i;have li:=aE hi;have hmul:i*(t.getD 0 []).length<=1000*1000:=Nat.mul_le_mul (by omega) hd;rw [nI];generalize jU m t ab i=H at*;simp -dsimp -implicitDefEqProofs only [go_sem,li];refine aj.up [1,2,5,7] [21,43,48,49,50] [12] (t.getD 0 []).length (λ_=>True) (λk=>[(8,eI k),(6,.ref 12 0 0 (H++ow m t ab i k).length)]) (λk=>[(12,.row 0 ⟨1,false⟩ (H++ow m t ab i k).isEmpty ((H++ow m t ab i k).map aM))]) trivial ?_ rfl (λk hk' _=> ?_) (λ_=> ?_)
   . simp -dsimp -implicitDefEqProofs only[go_sem,B3,List.append_nil]
   . have hit:i<t.length:=(by omega);have hki:k<t[i].length:=(by rw [hk i hit];exact hk');have gi:=get_some hit;have gk:=get_some hki;have gc:=get_some hi;have gl:=jT m t ab hk';have hp:(t.getD i []).getD k 0=t[i][k]:=(by simp [uq4,hit,hki]);have hcd:ab.getD i []=ab[i]:=(by simp [uq4,hi]);have hfk:=s0 m t ab i k;have hL:=kZ m t ab k;have hcl:=hc _ (uq6 hi);have hop:=rh (bQ m t ab k) ab[i] (by omega) (by omega) (λx hx=>by have:=iF m t ab k x hx;omega);rw [p7,hp,hcd];generalize ow m t ab i k=F at*;generalize bQ m t ab k=L at*;generalize ay m t ab (t.getD 0 []).length=LS at*;have lk:decide ((k:Int)<(LS.length:Int))=true:=dT (by omega);generalize t[i][k]=z at*;generalize ab[i]=c at*;generalize Y6:dX L c=ob at*;have hG:(H++F).length<=1001000:=(by rw [uq7];omega);have e9:∀x:lI,H++(F++[x])=(H++F)++[x]:=λx=>by simp
     simp only[e9,apply_ite (λl=>H++l)];generalize H++F=G at*;have htk:=aY aM G G.length (bw _);have e0:(G++[[(i:Int),(k:Int)]]).isEmpty=false:=(by simp);have e1:(G++[[(i:Int),(k:Int)]]).length=G.length+1:=(by simp);have e2:uq8 aM (G++[[(i:Int),(k:Int)]])=uq8 aM G++[aM [(i:Int),(k:Int)]]:=(by simp);simp -dsimp -implicitDefEqProofs only[pz,cm,fu,e8,↓reduceIte,eZ];rcases hz:(z==0) with _|_
     . simp -dsimp -implicitDefEqProofs only[go_sem,lk];refine aj.draw mixed rfl ?_;simp -dsimp -implicitDefEqProofs only[go_sem,gi,gk,hz];((with_reducible and_intros);all_goals try first|omega|(refine ⟨?_,?_⟩<;>omega)|exact rfl)
     simp -dsimp -implicitDefEqProofs only[go_sem,lk];refine aj.draw mixed rfl ?_;simp -dsimp -implicitDefEqProofs only[go_sem,gi,gk,gc,gl,hz];((with_reducible and_intros);all_goals try omega);refine an hop ?_;cases ob with
     |false=>
      simp -dsimp -implicitDefEqProofs only[go_sem];((with_reducible and_intros);all_goals try first|(refine ⟨?_,?_⟩<;>omega)|exact rfl)
     |true=>
      simp -dsimp -implicitDefEqProofs only[go_sem];refine ⟨by exact rfl,?_⟩;refine .inr ⟨by omega,(by cases G with|nil=>exact .inr rfl|cons=>exact .inl rfl),⟨by omega,by omega⟩,rfl,?_⟩;rw[e0,e2];simp -dsimp -implicitDefEqProofs only[go_sem];all_goals first|exact rfl|skip
   simp -dsimp -implicitDefEqProofs only[go_sem,hll,aA];((with_reducible and_intros);all_goals try first|(refine ⟨?_,?_⟩<;>omega)|exact rfl)
 have hfl:=kG m t ab ab.length;unfold gR;generalize jU m t ab ab.length=F at*;have htk:=aY aM F F.length (bw _);simp -dsimp -implicitDefEqProofs only[go_sem,aA];all_goals rw[htk]
theorem Dg (l:lL)(c:lI)(h0:c.length<=l.length)(h1:l.length<=1048576)(h2:∀x∈l,x.length<=1048576):Fn pG 221 [sT l,aM c] true (· =eB (dX l c)):=by
 refine Fn.au 23 [.tmp 4] func221 (hv:=?_);simp -dsimp -implicitDefEqProofs only[go_sem];refine aj.up [2,7,8] [20] [] c.length (λi=>((a_ i).all λi=>has (l.getD i []) (c.getD i 0))=true) (λi=>[(9,eI i)]) (λ_=>[]) rfl ?_ rfl (λi hi hI=>?_) (λhI=>?_)
 . simp -dsimp -implicitDefEqProofs only[go_sem]
 . have gi:=get_some (show i<l.length by omega);have gc:=get_some hi;have li:=aE hi;have hp:has (l.getD i []) (c.getD i 0)=has l[i] c[i]:=(by simp [uq4,hi,show i<l.length by omega]);have hq:=qZ l[i] c[i] (h2 _ (uq6 _));have no:has l[i] c[i]=false->dX l c=false:=λh=>b8 hi (by rw [hp];exact h);have yes:has l[i] c[i]=true->((a_ (i+1)).all λi=>has (l.getD i []) (c.getD i 0))=true:=λh=>by rw [bj,hI,hp,h];rfl
   clear hp hI;generalize l[i]=x at*;generalize c[i]=z at*;simp -dsimp -implicitDefEqProofs only[go_sem,gi,gc,li];((with_reducible and_intros);all_goals try omega);refine aa hq ?_;rcases hb:has x z with _|_
   . rw[no hb];simp -dsimp -implicitDefEqProofs only[go_sem]
   simp -dsimp -implicitDefEqProofs only[go_sem];refine ⟨⟨by omega,by omega⟩,?_,rfl⟩;rw[←ba];exact yes hb
 simp -dsimp -implicitDefEqProofs only[go_sem,aA];rw[show dX l c=true from hI]
theorem Kh (k:lL)(i:Nat):∀n,n<=k.length->((k.take n).map λx=>x.getD i 0).length=n:=λn h=>by simp[h]
theorem P4 (m:aJ)(keys:lL)(hm:aU m=true)(h0:keys.length<=1048576)(hk3:∀k∈keys,(k.length:Int)=m.ae/\∀x∈k,0<=x/\x<m.ak):
 Fn pG 214 [kj m,aQ keys] false (· =sT (km m keys m.ae.toNat)):=by
 have ⟨⟨n1,n2⟩,n3,n4⟩:=aI hm;refine Fn.bP 42 [.cell 4 121] func214 (hv:=?_);simp -dsimp -implicitDefEqProofs only[go_sem];refine aj.up [1,4,5,12] [16,18,28,29,32,36,37,38] [5,38] m.ae.toNat (λ_=>True) (λi=>[(13,eI i)]) (λi=>[(5,.box 0 [.ref 38 0 0 i]),(38,.row 0 ⟨1,false⟩ (i==0) ((km m keys i).map aM))]) trivial ?_ rfl (λi hi _=>?_) (λ_=>?_)
 . simp -dsimp -implicitDefEqProofs only[go_sem,B2]
 . have hlt:decide ((i:Int)<m.ae)=true:=dT (by omega);have hhl:=ph m keys i
   have Tv:=IN (m:=m) (keys:=keys) (i:=i) (λk hk=>by
    obtain ⟨h1,h2⟩:=hk3 k hk;have hil:i<k.length:=(by omega);rw[show k.getD i 0=k[i] by simp[uq4,hil]]
    exact h2 _ (uq6 hil))
   rw[B1,←Tv];clear Tv;generalize km m keys i=H at*;simp -dsimp -implicitDefEqProofs only[go_sem,hlt];refine aj.up [1,4,5,6,12,13,17,18] [28,29] [16] keys.length (λ_=>True) (λk=>[(19,eI k),(7,.ref 16 0 0 k)]) (λk=>[(16,.row 0 ⟨1,false⟩ true (((keys.take k).map λx=>x.getD i 0).map eI))]) trivial ?_ rfl (λk hk' _=>?_) (λ_=>?_)
   . simp -dsimp -implicitDefEqProofs only[go_sem,c_,List.map_nil]
   . have hkl:i<keys[k].length:=(by have:=(hk3 _ (uq6 hk')).1;omega);have gk:=get_some hk';have gi:=get_some hkl;have lk:=aE hk';have hgd:keys[k].getD i 0=keys[k][i]:=(by simp [uq4,hkl]);have ht:(keys.take (k+1)).map (λx=>x.getD i 0)=(keys.take k).map (λx=>x.getD i 0)++[keys[k][i]]:=by
      rw[dh hk',List.map_append,List.map_singleton,hgd]
     have hln:=Kh keys i k (by omega);rw[ht];clear ht hgd;generalize (keys.take k).map (λx=>x.getD i 0)=F at*;generalize keys[k]=x at*;generalize x[i]=z at*;have htk:=aY eI F k (by omega);simp -dsimp -implicitDefEqProofs only[go_sem,lk,gk,gi,htk];((with_reducible and_intros);all_goals try first|omega|(refine ⟨?_,?_⟩<;>omega)|exact rfl);all_goals first|(simp;done)|skip
   have hln:=Kh keys i keys.length (bw _);have hr:vA (keys.map λk=>k.getD i 0)=Lib.compact (((keys.take keys.length).map λk=>k.getD i 0).mergeSort λx y=>decide (x<=y)):=(by rw[cE,PX]);rw[hr];clear hr;generalize (keys.take keys.length).map (λx=>x.getD i 0)=F at*;simp -dsimp -implicitDefEqProofs only[go_sem,aA];refine ⟨by omega,?_⟩;refine aR [16] ?_;simp -dsimp -implicitDefEqProofs only[go_sem];rw[←hln];refine aN (Ta 0 F (by omega)) ?_;simp -dsimp -implicitDefEqProofs only[go_sem];refine aj.draw mixed rfl ?_;have hle:(F.mergeSort λx y=>decide (x<=y)).length=F.length:=List.length_mergeSort _;have hcl:=jS (F.mergeSort λx y=>decide (x<=y));simp -dsimp -implicitDefEqProofs only[go_sem];refine ⟨by omega,?_⟩;refine IG (zs:=F.mergeSort λx y=>decide (x<=y)) ?_ hle.symm (by omega) ?_
   . simp -dsimp -implicitDefEqProofs only[go_sem]
   generalize Lib.compact (F.mergeSort λx y=>decide (x<=y))=C at*;have e0:(i+1==0)=false:=rfl;have e2:uq8 aM (H++[C])=uq8 aM H++[aM C]:=(by simp);have htk:=aY aM H i (by omega);have htC:bp C.length (uq8 eI (C++List.replicate ((F.mergeSort λx y=>decide (x<=y)).length-C.length) 0))=uq8 eI C:=(by rw[←uq9];simp);simp -dsimp -implicitDefEqProofs only[go_sem,htC];refine ⟨by omega,.inr ⟨by omega,by omega,(by cases i with|zero=>exact .inr rfl|succ i=>exact .inl rfl),by exact rfl,⟨by omega,by omega⟩,rfl,?_⟩⟩;rw[e0,e2];simp -dsimp -implicitDefEqProofs only[go_sem,htk]
 have hlt:decide (((m.ae.toNat:Nat):Int)<m.ae)=false:=dF (by omega);have hhl:=ph m keys m.ae.toNat;generalize km m keys m.ae.toNat=H at*;have htk:=aY aM H m.ae.toNat (by omega);simp -dsimp -implicitDefEqProofs only[go_sem,hlt];((with_reducible and_intros);all_goals try omega);all_goals rw[htk]
def jc (ab:lL)(rs:lI):Nat->lL
 |0=>[]
 |j+1=>if decide (rs.getD j 0<(ab.length:Int))=true then jc ab rs j++[ab.getD (rs.getD j 0).toNat []] else jc ab rs j
theorem IP (ab:lL)(rs:lI):jc ab rs 0=[]:=rfl
theorem k7 (ab:lL)(rs:lI)(j:Nat):jc ab rs (j+1)=if decide (rs.getD j 0<(ab.length:Int))=true then jc ab rs j++[ab.getD (rs.getD j 0).toNat []] else jc ab rs j:=rfl
theorem B4 (ab:lL)(rs:lI):∀j,(jc ab rs j).length<=j
 |0=>bw _
 |j+1=>by
  have:=B4 ab rs j;rw[k7];split
  . simp;omega
  omega
theorem MB (ab:lL)(rs:lI)(x:Int):jc ab (rs++[x]) (rs++[x]).length=if decide (x<(ab.length:Int))=true then jc ab rs rs.length++[ab.getD x.toNat []] else jc ab rs rs.length:=by
 have key:∀j,j<=rs.length->jc ab (rs++[x]) j=jc ab rs j:=by
  intro j;induction j with
  |zero=>intro _;rfl
  |succ j ih=>
   intro hj;have:(rs++[x]).getD j 0=rs.getD j 0:=(by simp[uq4,List.getElem?_append_left (show j<rs.length by omega)]);rw[k7,k7,ih (by omega),this]
 have e:(rs++[x]).length=rs.length+1:=by simp
 have hx:(rs++[x]).getD rs.length 0=x:=by simp[uq4]
 rw[e,k7,key _ (bw _),hx]
theorem yM (t ab:lL)(k:Nat):∀n,n<=t.length->jc ab (v7 (λi=>(t.getD i []).getD k 0==1) n) (v7 (λi=>(t.getD i []).getD k 0==1) n).length=js t ab k (min n ab.length)
 |0,_=>by rw[pd,Nat.zero_min];rfl
 |n+1,hn=>by
  have ih:=yM t ab k n (by omega);rw[mR];split
  . rename_i h;rw [MB,ih];by_cases hc:n<ab.length
    . rw[if_pos (dT (by omega)),show min (n+1) ab.length=n+1 by omega,show min n ab.length=n by omega,gL,if_pos h];rfl
    rw[if_neg (by simp;omega),show min (n+1) ab.length=min n ab.length by omega]
  rename_i h;rw[ih];by_cases hc:n<ab.length
  . rw[show min (n+1) ab.length=n+1 by omega,show min n ab.length=n by omega,gL,if_neg h]
  rw[show min (n+1) ab.length=min n ab.length by omega]
theorem MC {t ab:lL}(h:ab.length<=t.length)(k:Nat):jc ab (jo t k) (jo t k).length=js t ab k ab.length:=by
 have:=yM t ab k t.length (bw _)
 rwa [show min t.length ab.length=ab.length by omega] at this
theorem IQ {t:lL}{k j:Nat}(h:j<(jo t k).length):0<=(jo t k)[j]:=by have h1:(jo t k)[j]∈jo t k:=uq6 h;obtain ⟨i,_,e,_⟩:=sR (p:=λi=>(t.getD i []).getD k 0==1) (i:=t.length) h1;omega
theorem IS (t:lL)(k:Nat):(jo t k).length<=t.length:=p6 _ _
theorem gB (m:aJ)(t ab:lL)(hm:aU m=true)(h0:t.length<=1000)(h1:ab.length<=t.length)(h2:0<t.length)(hk:∀i (hi:i<t.length),t[i].length=(t.getD 0 []).length)(hd:(t.getD 0 []).length<=1000)(hc:∀x∈ab,(x.length:Int)=m.ae/\∀y∈x,0<=y/\y<m.ak):
 Fn pG 162 [jR m t,aQ ab] false (· =qi (ay m t ab (t.getD 0 []).length)):=by
 refine Fn.bP 49 [.tmp 4] func162 (hv:=?_);have g0:=get_some h2;have hg:t.getD 0 []=t[0]:=by simp[uq4,h2]
 rw[hg] at hk hd ⊢;simp -dsimp -implicitDefEqProofs only[go_sem,g0];refine ⟨by omega,?_⟩;refine aj.up [1,2,15] [19,22,23,30,37,38,44,45,46] [10] t[0].length (λ_=>True) (λi=>[(16,eI i),(5,.ref 10 0 0 i)]) (λi=>[(10,.row 0 ⟨1,true⟩ (i==0) ((ay m t ab i).map sT))]) trivial ?_ rfl (λi hi _=>?_) (λ_=>?_)
 . simp -dsimp -implicitDefEqProofs only[go_sem,sY]
 . have hrf:=BX m t i (by omega) (λj hj=>by rw [hk j hj];exact hi);have hll:=dP m t ab i;have li:=aE hi;have hrl:=IS t i;have hrg:=λj (h:j<(jo t i).length)=>IQ h;have hon:=sX t ab i ab.length;have hmm:∀x∈js t ab i ab.length,(x.length:Int)=m.ae/\∀y∈x,0<=y/\y<m.ak:=λx hx=>hc x (yK (bw _) x hx);have hq:=P4 m (js t ab i ab.length) hm (by omega) hmm;have cP:=MC h1 i;rw [sZ];unfold bQ;generalize ay m t ab i=F at*;have htk:=aY sT F i (by omega);have e0:(i+1==0)=false:=rfl;have e2:∀L:lL,uq8 sT (F++[L])=uq8 sT F++[sT L]:=λL=>by simp
   generalize js t ab i ab.length=K at*;simp -dsimp -implicitDefEqProofs only[go_sem,li];refine aa hrf ?_;clear hrf;generalize jo t i=R at*;simp -dsimp -implicitDefEqProofs only[go_sem];refine aj.up [1,2,5,15,16,22,23] [30,37,38] [19] R.length (λ_=>True) (λj=>[(24,eI j),(7,.ref 19 0 0 (jc ab R j).length)]) (λj=>[(19,.row 0 ⟨1,false⟩ (jc ab R j).isEmpty ((jc ab R j).map aM))]) trivial ?_ rfl (λj hj _=>?_) (λ_=>?_)
   . simp -dsimp -implicitDefEqProofs only[go_sem,IP,List.isEmpty_nil]
   . have lj:=aE hj;have gj:=get_some hj;have hgd:R.getD j 0=R[j]:=(by simp [uq4,hj]);have hcl:=B4 ab R j;have hr0:=hrg j hj;rw [k7,hgd];generalize jc ab R j=G at*;generalize R[j]=z at*;have htG:=aY aM G G.length (bw _);simp -dsimp -implicitDefEqProofs only [pz,cm,fu,e8,↓reduceIte,eZ];rcases hz:decide (z<(ab.length:Int)) with _|_
     . simp -dsimp -implicitDefEqProofs only[go_sem,lj,gj,hz];((with_reducible and_intros);all_goals try first|omega|(refine ⟨?_,?_⟩<;>omega)|exact rfl)
     have hzl:z.toNat<ab.length:=(by have:=oT hz;omega);have gz:=get_some hzl;have hcd:ab.getD z.toNat []=ab[z.toNat]:=(by simp[uq4,hzl]);simp only[if_true];rw[hcd];generalize ab[z.toNat]=c at*;have f0:(G++[c]).isEmpty=false:=(by simp);have f2:uq8 aM (G++[c])=uq8 aM G++[aM c]:=(by simp);simp -dsimp -implicitDefEqProofs only[go_sem,lj,gj,gz,hz];refine ⟨⟨by omega,by omega⟩,⟨by omega,by omega⟩,?_⟩;refine .inr ⟨by omega,(by cases G with|nil=>exact .inr rfl|cons=>exact .inl rfl),⟨by omega,by omega⟩,?_⟩;rw[f0,f2];simp -dsimp -implicitDefEqProofs only[go_sem];exact rfl
   rw[cP];have htK:=aY aM K K.length (bw _);simp -dsimp -implicitDefEqProofs only[go_sem,aA];refine jn 19 0 ⟨1,false⟩ K.isEmpty (uq8 aM K) hq (by decide) ?_ ?_ λr hr=>?_
   . simp -dsimp -implicitDefEqProofs only[go_sem]
   . refine pa ?_ rfl ?_
     . simp -dsimp -implicitDefEqProofs only[go_sem]
     have h:=kD (l:=19) (v:=0) (sh:=⟨1,false⟩) (ys:=uq8 aM K) (xs:=[]) (r:=[]) 0 K.length (by simp) trivial;rw[uq3,htK] at h;exact h
   subst hr;generalize km m K m.ae.toNat=L at*;simp -dsimp -implicitDefEqProofs only[go_sem];refine .inr ⟨by omega,by omega,(by cases i with|zero=>exact .inr rfl|succ i=>exact .inl rfl),⟨by omega,by omega⟩,rfl,?_⟩;rw[e0,e2];simp -dsimp -implicitDefEqProofs only[go_sem,htk]
 have hll:=dP m t ab t[0].length;generalize ay m t ab t[0].length=F at*;have htk:=aY sT F t[0].length (by omega);simp -dsimp -implicitDefEqProofs only[go_sem,aA];((with_reducible and_intros);all_goals try omega);all_goals rw[htk]
theorem nJ (m:aJ)(t ab:lL)(hm:aU m=true)(h0:t.length<=1000)(h1:ab.length<=t.length)(h2:0<t.length)(hk:∀i (hi:i<t.length),t[i].length=(t.getD 0 []).length)(hd:(t.getD 0 []).length<=1000)(hc:∀x∈ab,(x.length:Int)=m.ae/\∀y∈x,0<=y/\y<m.ak):
 Fn pG 231 [jR m t,aQ ab] false (· =aQ (gR m t ab)):=by
 have ⟨⟨n1,n2⟩,n3,n4⟩:=aI hm;refine Fn.bP 52 [.tmp 4] func231 (hv:=?_);have hq:=gB m t ab hm h0 h1 h2 hk hd hc;simp -dsimp -implicitDefEqProofs only[go_sem];refine av (hq) (by simp[ax,ao,aq,aF]) ?_;clear hq;simp -dsimp -implicitDefEqProofs only[go_sem];have hll:=dP m t ab (t.getD 0 []).length;refine aj.up [2,6,15,16] [10,23,41,46,47,48] [11] ab.length (λ_=>True) (λi=>[(17,eI i),(5,.ref 11 0 0 (jU m t ab i).length)]) (λi=>[(11,.row 0 ⟨1,false⟩ (jU m t ab i).isEmpty ((jU m t ab i).map aM))]) trivial ?_ rfl (λi hi _=>?_) (λ_=>?_)
 . simp -dsimp -implicitDefEqProofs only[go_sem,yL,List.isEmpty_nil]
 . have hfl:=kG m t ab i;have li:=aE hi;have gc:=get_some hi;have hmul:i*(t.getD 0 []).length<=1000*1000:=Nat.mul_le_mul (by omega) hd;rw [nI];generalize jU m t ab i=H at*;simp -dsimp -implicitDefEqProofs only [go_sem,li,gc];refine ⟨by omega,?_⟩;refine aj.up [2,6,7,8,15,16,17,22,23] [10,41,46,47,48] [11] (t.getD 0 []).length (λ_=>True) (λk=>[(24,eI k),(5,.ref 11 0 0 (H++ow m t ab i k).length)]) (λk=>[(11,.row 0 ⟨1,false⟩ (H++ow m t ab i k).isEmpty ((H++ow m t ab i k).map aM))]) trivial ?_ rfl (λk hk' _=> ?_) (λ_=> ?_)
   . simp -dsimp -implicitDefEqProofs only[go_sem,B3,List.append_nil]
   . have hit:i<t.length:=(by omega);have hki:k<t[i].length:=(by rw [hk i hit];exact hk');have gi:=get_some hit;have gk:=get_some hki;have gl:=jT m t ab hk';have hp:(t.getD i []).getD k 0=t[i][k]:=(by simp [uq4,hit,hki]);have hcd:ab.getD i []=ab[i]:=(by simp [uq4,hi]);have hfk:=s0 m t ab i k;have hL:=kZ m t ab k;have hcl:=(hc _ (uq6 hi)).1;have hop:=Dg (bQ m t ab k) ab[i] (by omega) (by omega) (λx hx=>by have:=iF m t ab k x hx;omega);rw [p7,hp,hcd];generalize ow m t ab i k=F at*;generalize bQ m t ab k=L at*;generalize ay m t ab (t.getD 0 []).length=LS at*;have lk:decide ((k:Int)<(LS.length:Int))=true:=dT (by omega);generalize t[i][k]=z at*;generalize ab[i]=c at*;generalize Y6:dX L c=ob at*;have hG:(H++F).length<=1001000:=(by rw [uq7];omega);have e9:∀x:lI,H++(F++[x])=(H++F)++[x]:=λx=>by simp
     simp only[e9,apply_ite (λl=>H++l)];generalize H++F=G at*;have htk:=aY aM G G.length (bw _);have e0:(G++[[(i:Int),(k:Int)]]).isEmpty=false:=(by simp);have e2:uq8 aM (G++[[(i:Int),(k:Int)]])=uq8 aM G++[aM [(i:Int),(k:Int)]]:=(by simp);simp -dsimp -implicitDefEqProofs only[pz,cm,fu,e8,↓reduceIte,eZ];rcases hz:(z==0) with _|_
     . simp -dsimp -implicitDefEqProofs only[go_sem,gi,gk,gl,lk,hz];((with_reducible and_intros);all_goals try first|omega|(refine ⟨?_,?_⟩<;>omega)|exact rfl)
     simp -dsimp -implicitDefEqProofs only[go_sem,gi,gk,gl,lk,hz];((with_reducible and_intros);all_goals try omega);refine aa hop ?_;cases ob with
     |false=>
      simp -dsimp -implicitDefEqProofs only[go_sem];((with_reducible and_intros);all_goals try first|(refine ⟨?_,?_⟩<;>omega)|exact rfl)
     |true=>
      simp -dsimp -implicitDefEqProofs only[go_sem];refine .inr ⟨by omega,(by cases G with|nil=>exact .inr rfl|cons=>exact .inl rfl),⟨by omega,by omega⟩,rfl,?_⟩;rw[e0,e2];simp -dsimp -implicitDefEqProofs only[go_sem];all_goals first|exact rfl|skip
   simp -dsimp -implicitDefEqProofs only[go_sem,hll,aA];((with_reducible and_intros);all_goals try first|(refine ⟨?_,?_⟩<;>omega)|exact rfl)
 have hfl:=kG m t ab ab.length;unfold gR;generalize jU m t ab ab.length=F at*;have htk:=aY aM F F.length (bw _);simp -dsimp -implicitDefEqProofs only[go_sem,aA];all_goals rw[htk]
structure KS (σ:Type) where
 af:Nat
 zs:lI
 s:σ
def eO {τ:Type}(f:Nat->τ->τ × Bool)(t:τ):Nat->τ × Bool
 |0=>(t,true)
 |i+1=>if (eO f t i).2=true then f i (eO f t i).1 else eO f t i
theorem iW {τ:Type}{f:Nat->τ->τ × Bool}{t:τ}{i:Nat}(h:(eO f t i).2=true):eO f t (i+1)=f i (eO f t i).1:=by rw[eO,if_pos h]
theorem pj {τ:Type}{f:Nat->τ->τ × Bool}{t:τ}{i:Nat}(h:(eO f t i).2=false):∀j,i<=j->eO f t j=eO f t i:=by
 intro j hj;induction j with
 |zero=>rw[show i=0 by omega]
 |succ j ih=>
  by_cases e:i=j+1
  . rw[e]
  have:=ih (by omega);rw[eO,this,if_neg (by rw[h];exact λe=>by cases e)]
def bC {σ:Type}(f:σ->lI->σ × Bool):σ->lL->σ × Bool
 |s,[]=>(s,true)
 |s,k::r=>if (f s k).2=true then bC f (f s k).1 r else f s k
theorem qF {σ:Type}{f:σ->lI->σ × Bool}:∀(a b:lL) (s:σ),bC f s (a++b)=if (bC f s a).2=true then bC f (bC f s a).1 b else bC f s a
 | [],b,s=>by simp[bC]
 |k::a,b,s=>by
  simp only[List.cons_append,bC];by_cases h:(f s k).2=true
  . simp only[h,if_true];exact qF a b _
  have h':(f s k).2=false:=by simpa using h
  simp[h']
def bK (m:aJ)(c:lI)(d:Int):Bool:=c.isEmpty||decide (fm (d-c.getD (c.length-1) 0)<=m.step)
def gb (m:aJ)(c:lI)(d:Int):Bool:=decide ((aZ (c++[d]) c.length:Int)<=m.same)
def a6 (m:aJ):Nat->lI->lL
 |0,c=>if (bg c c.length:Int)<m.least then [] else [c]
 |n+1,c=>(a_ m.ak.toNat).flatMap λ(d:Nat)=>if (bK m c (d:Int)&&gb m c (d:Int))=true then a6 m n (c++[(d:Int)]) else []
def bn {σ:Type}(m:aJ)(f:σ->lI->σ × Bool):Nat->lI->KS σ->KS σ × Bool
 |0,c,t=>if (bg c c.length:Int)<m.least then (t,true) else (⟨t.af,t.zs,(f t.s c).1⟩,(f t.s c).2)
 |n+1,c,t=>eO (λ(d:Nat) t=>if bK m c d=true then if gb m c d=true then bn m f n (c++[(d:Int)]) ⟨t.af+1,t.zs.take c.length++[(d:Int)],t.s⟩ else (⟨t.af+1,t.zs.take c.length++[(d:Int)],t.s⟩,true) else (t,true)) t m.ak.toNat
def aT {σ:Type}(m:aJ)(f:σ->lI->σ × Bool)(n:Nat)(c:lI)(d:Nat)(t:KS σ):KS σ × Bool:=
 if bK m c d=true then if gb m c d=true then bn m f n (c++[(d:Int)]) ⟨t.af+1,t.zs.take c.length++[(d:Int)],t.s⟩ else (⟨t.af+1,t.zs.take c.length++[(d:Int)],t.s⟩,true) else (t,true)
theorem dS {σ:Type}(m:aJ)(f:σ->lI->σ × Bool)(n:Nat)(c:lI)(t:KS σ):bn m f (n+1) c t=eO (aT m f n c) t m.ak.toNat:=rfl
def DW {σ:Type}(c:lI)(t:KS σ):Prop:=t.zs.take c.length=c/\c.length<=t.zs.length
theorem s4 {σ:Type}{c:lI}{t:KS σ}(h:DW c t)(d:Int):DW (c++[d]) (⟨t.af+1,t.zs.take c.length++[d],t.s⟩:KS σ):=by
 refine ⟨?_,?_⟩
 . show (t.zs.take c.length++[d]).take (c++[d]).length=_;rw[h.1];exact cE
 show (c++[d]).length<=(t.zs.take c.length++[d]).length;rw[h.1];exact bw _
theorem s5 {σ:Type}{c:lI}{d:Int}{t:KS σ}(h:DW (c++[d]) t):DW c t:=by
 have h2:c.length<=t.zs.length:=by have:=h.2;simp at this;omega
 refine ⟨?_,h2⟩;have:=congrArg (bp c.length) h.1;simp only[List.take_take] at this;rw[show min c.length (c++[d]).length=c.length by simp] at this;rw[this];simp
theorem iG {σ:Type}(m:aJ)(f:σ->lI->σ × Bool):∀(n:Nat) (c:lI) (t:KS σ),DW c t->DW c (bn m f n c t).1/\(bn m f n c t).1.s=(bC f t.s (a6 m n c)).1/\(bn m f n c t).2=(bC f t.s (a6 m n c)).2
 |0,c,t,h=>by
  simp only[bn,a6];split
  . exact ⟨h,rfl,rfl⟩
  refine ⟨h,?_,?_⟩
  . simp only[bC];split<;>rfl
  simp only[bC];split<;>simp_all
 |n+1,c,t,h=>by
  rw[dS,a6];generalize m.ak.toNat=D;induction D with
  |zero=>exact ⟨h,rfl,rfl⟩
  |succ D ih=>
   obtain ⟨i1,i2,i3⟩:=ih;rw[ba,List.flatMap_append,qF];rw[←i3];by_cases hb:(eO (aT m f n c) t D).2=true
   . rw [iW hb,if_pos hb,←i2];generalize (eO (aT m f n c) t D).1=u at i1;simp only [List.flatMap_cons,List.flatMap_nil,List.append_nil,aT];by_cases h1:bK m c D=true
     . by_cases h2:gb m c D=true
       . rw[if_pos h1,if_pos h2,if_pos (by rw[h1,h2];rfl)];have:=iG m f n (c++[(D:Int)]) ⟨u.af+1,u.zs.take c.length++[(D:Int)],u.s⟩ (s4 i1 D);exact ⟨s5 this.1,this.2.1,this.2.2⟩
       rw[if_pos h1,if_neg h2,if_neg (by simp[h2])];exact ⟨s5 (s4 i1 D),rfl,rfl⟩
     rw[if_neg h1,if_neg (by simp[h1])];exact ⟨i1,rfl,rfl⟩
   rw[eO,if_neg hb,if_neg hb];exact ⟨i1,i2,by simpa using i3⟩
theorem p8 {σ:Type}{m:aJ}{f:σ->lI->σ × Bool}{n:Nat}{c:lI}{t:KS σ}(h:DW c t):∀D,DW c (eO (aT m f n c) t D).1
 |0=>h
 |D+1=>by
  have i1:=p8 h D (m:=m) (f:=f) (n:=n);by_cases hb:(eO (aT m f n c) t D).2=true
  . rw [iW hb];generalize (eO (aT m f n c) t D).1=u at i1;simp only [aT];by_cases h1:bK m c D=true
    . by_cases h2:gb m c D=true
      . rw[if_pos h1,if_pos h2];exact s5 (iG m f n (c++[(D:Int)]) ⟨u.af+1,u.zs.take c.length++[(D:Int)],u.s⟩ (s4 i1 D)).1
      rw[if_pos h1,if_neg h2];exact s5 (s4 i1 D)
    rw[if_neg h1];exact i1
  rw[eO,if_neg hb];exact i1
theorem ko (m:aJ)(hm:aU m=true):∀(n:Nat) (c:lI),(a6 m n c).length<=8^n
 |0,c=>by simp only[a6];split<;>simp
 |n+1,c=>by
  have hd:m.ak.toNat<=8:=by have:=aI hm;omega
  have:∀D,((a_ D).flatMap λ(d:Nat)=>if (bK m c (d:Int)&&gb m c (d:Int))=true then a6 m n (c++[(d:Int)]) else []).length<=D*8^n:=by
   intro D;induction D with
   |zero=>simp
   |succ D ih=>
    rw[ba,List.flatMap_append,uq7,Nat.succ_mul];refine Nat.add_le_add ih ?_;simp only[List.flatMap_cons,List.flatMap_nil,List.append_nil];split
    . exact ko m hm n _
    exact Nat.zero_le _
  rw[a6,Nat.pow_succ,Nat.mul_comm (8^n) 8];exact Nat.le_trans (this _) (Nat.mul_le_mul_right _ hd)
theorem nK (m:aJ):∀(n:Nat) (c k:lI),k∈a6 m n c->k.take c.length=c/\k.length=c.length+n
 |0,c,k,h=>by
  simp only[a6] at h;split at h
  . cases h
  simp at h;subst h;simp
 |n+1,c,k,h=>by
  simp only[a6,List.mem_flatMap,dE] at h;obtain ⟨d,_,h⟩:=h;split at h
  . have:=nK m n _ k h;have h1:=congrArg (bp c.length) this.1;simp only[List.take_take] at h1;rw[show min c.length (c++[(d:Int)]).length=c.length by simp] at h1;refine ⟨by rw[h1];simp,by rw[this.2];simp;omega⟩
  cases h
theorem wv {m:aJ}(hm:aU m=true){f:Int->lI->Int × Bool}{n:Nat}{c:lI}(hc:∀(c':lI) (t:KS Int),t.s<=(bn m f n c' t).1.s/\(bn m f n c' t).1.s<=t.s+8^n)(t:KS Int):
 ∀D:Nat,t.s<=(eO (aT m f n c) t D).1.s/\(eO (aT m f n c) t D).1.s<=t.s+D*8^n
 |0=>by simp[eO]
 |D+1=>by
  have ih:=wv hm hc t D (c:=c);have hp:(0:Int)<=8^n:=Int.pow_nonneg (by decide);have e:((D+1:Nat):Int)*8^n=(D:Int)*8^n+8^n:=by rw[Int.natCast_add,Int.add_mul];simp
  rw[e];by_cases hb:(eO (aT m f n c) t D).2=true
  . rw [iW hb];generalize (eO (aT m f n c) t D).1=u at ih;simp only [aT];split
    . split
      . have:=hc (c++[(D:Int)]) ⟨u.af+1,u.zs.take c.length++[(D:Int)],u.s⟩;simp only at this;omega
      simp only;omega
    simp only;omega
  rw[eO,if_neg hb];omega
theorem yN {m:aJ}(hm:aU m=true){f:Int->lI->Int × Bool}(hf:∀s k,s<=(f s k).1/\(f s k).1<=s+1):∀(n:Nat) (c:lI) (t:KS Int),t.s<=(bn m f n c t).1.s/\(bn m f n c t).1.s<=t.s+8^n
 |0,c,t=>by
  simp only[bn];have:=hf t.s c;split<;>simp<;>omega
 |n+1,c,t=>by
  have hd:m.ak.toNat<=8:=by have:=aI hm;omega
  have:=wv hm (yN hm hf n) t m.ak.toNat (c:=c);have hp:(0:Int)<=8^n:=Int.pow_nonneg (by decide);have h2:(m.ak.toNat:Int)*8^n<=8*8^n:=Int.mul_le_mul_of_nonneg_right (by omega) hp;have h3:(8:Int)^(n+1)=8*8^n:=by rw[Int.pow_succ,Int.mul_comm]
  rw[dS,h3];omega
def fJ (s:Int)(_:lI):Int × Bool:=(s+1,true)
def cq (key:lI)(s:Int)(k:lI):Int × Bool:=if k=key then (s,false) else (s+1,true)
theorem B5:∀(ks:lL) (s:Int),bC fJ s ks=(s+ks.length,true)
 | [],s=>by simp[bC]
 |k::r,s=>by show bC fJ (s+1) r=_;rw[B5 r];simp;omega
theorem yO {key:lI}:∀(a b:lL) (s:Int),key∉a->bC (cq key) s (a++key::b)=(s+a.length,false)
 | [],b,s,_=>by simp[bC,cq]
 |k::a,b,s,h=>by
  have h1:k≠key:=λe=>h (by simp[e]);have h2:cq key s k=(s+1,true):=by simp[cq,h1]
  rw[List.cons_append,bC,h2];show bC (cq key) (s+1) _=_;rw[yO a b (s+1) λhh=>h (List.mem_cons_of_mem _ hh)];simp;omega
def eP (m:aJ)(c:lI):Bool:=(a_ c.length).all λi=>decide ((aZ c i:Int)<=m.same)&&cw m c i
theorem vC {m:aJ}{c:lI}{d:Int}{i:Nat}(h:i<c.length):cw m (c++[d]) i=cw m c i:=by
 have g:∀j,j<c.length->(c++[d]).getD j 0=c.getD j 0:=λj hj=>by simp[uq4,List.getElem?_append_left hj]
 unfold cw;rw[g i h,g (i-1) (by omega)]
theorem B6 {c:lI}{d:Int}{i:Nat}(h:i<c.length):aZ (c++[d]) i=aZ c i:=by have:=yG (c++[d]) c.length i h;simp at this;exact this.symm
theorem jt (m:aJ)(c:lI)(d:Int):eP m (c++[d])=(eP m c&&(bK m c d&&gb m c d)):=by
 have h1:(a_ c.length).all (λi=>decide ((aZ (c++[d]) i:Int)<=m.same)&&cw m (c++[d]) i)=eP m c:=by
  unfold eP;rw[Bool.eq_iff_iff,uq1,uq1];constructor
  . intro h i hi;have:=h i hi
    rwa [B6 (dE.1 hi),vC (dE.1 hi)] at this
  intro h i hi;rw[B6 (dE.1 hi),vC (dE.1 hi)];exact h i hi
 have h2:cw m (c++[d]) c.length=bK m c d:=by
  unfold cw bK;cases c with
  |nil=>simp
  |cons x r=>
   have g1:((x::r)++[d]).getD (x::r).length 0=d:=(by simp[uq4]);have g2:((x::r)++[d]).getD ((x::r).length-1) 0=(x::r).getD ((x::r).length-1) 0:=by simp only[uq4];rw[List.getElem?_append_left (by simp)]
   rw[g1,g2];simp
 rw[eP,uq7,show c.length+[d].length=c.length+1 by rfl,bj,h1,h2];unfold gb;cases eP m c<;>cases bK m c d<;>simp
def lR (m:aJ)(n:Nat)(c:lI):Nat:=if eP m c=true then (a6 m n c).length else 0
theorem P5 (m:aJ)(c:lI)(h:eP m c=true):lR m 0 c=if (bg c c.length:Int)<m.least then 0 else 1:=by rw[lR,if_pos h,a6];split<;>rfl
def jV (m:aJ)(n:Nat)(c:lI)(D:Nat):Nat:=((a_ D).map λ(d:Nat)=>lR m n (c++[(d:Int)])).sum
theorem nL (m:aJ)(n:Nat)(c:lI)(D:Nat):jV m n c (D+1)=jV m n c D+lR m n (c++[(D:Int)]):=by rw[jV,ba,List.map_append,List.sum_append];simp[jV]
def j4 (m:aJ)(n:Nat)(c:lI)(D:Nat):lL:=(a_ D).flatMap λ(d:Nat)=>if (bK m c (d:Int)&&gb m c (d:Int))=true then a6 m n (c++[(d:Int)]) else []
theorem jW (m:aJ)(n:Nat)(c:lI)(D:Nat):j4 m n c (D+1)=j4 m n c D++if (bK m c (D:Int)&&gb m c (D:Int))=true then a6 m n (c++[(D:Int)]) else []:=by rw[j4,ba,List.flatMap_append];simp[j4]
theorem yP (m:aJ)(n:Nat)(c:lI)(h:eP m c=true)(D:Nat):(j4 m n c D).length=jV m n c D:=by
 induction D with
 |zero=>rfl
 |succ D ih=>
  rw[jW,nL,uq7,ih];congr 1;rw[lR,jt,h,Bool.true_and];split<;>rfl
theorem P6 (m:aJ)(n:Nat)(c:lI)(h:eP m c=true):lR m (n+1) c=jV m n c m.ak.toNat:=by rw[lR,if_pos h,←yP m n c h];rfl
theorem Dh (m:aJ)(hm:aU m=true)(n:Nat)(c:lI):lR m n c<=8^n:=by
 unfold lR;split
 . exact ko m hm n c
 exact Nat.zero_le _
theorem yQ (m:aJ)(hm:aU m=true)(n:Nat)(c:lI)(D:Nat):jV m n c D<=D*8^n:=by
 induction D with
 |zero=>simp[jV]
 |succ D ih=>rw[nL,Nat.succ_mul];exact Nat.add_le_add ih (Dh m hm n _)
theorem rm {m:aJ}{n:Nat}{c k:lI}:∀{D:Nat},k∈j4 m n c D->∃d:Nat,d<D/\k.take (c.length+1)=c++[(d:Int)]
 |0,h=>by cases h
 |D+1,h=>by
  rw[jW,bk] at h;rcases h with h|h
  . obtain ⟨d,h1,h2⟩:=rm h;exact ⟨d,by omega,h2⟩
  split at h
  . have:=(nK m n _ k h).1;exact ⟨D,by omega,by simpa using this⟩
  cases h
theorem s6 (m:aJ)(n:Nat)(c:lI)(D:Nat):∀E,∃r,j4 m n c (D+E)=j4 m n c D++r
 |0=>⟨[],by simp⟩
 |E+1=>by obtain ⟨r,h⟩:=s6 m n c D E;exact ⟨r++_,by rw[←Nat.add_assoc,jW,h,List.append_assoc]⟩
def cG (m:aJ)(key:lI):Nat->Nat
 |0=>0
 |i+1=>cG m key i+jV m (key.length-(i+1)) (key.take i) (key.getD i 0).toNat
theorem yR {key:lI}{i:Nat}(h:i<key.length):key.take (i+1)=key.take i++[key.getD i 0]:=by rw[List.take_add_one];simp[uq4,h]
theorem B7 {m:aJ}{key:lI}(h:eP m key=true):∀j,eP m (key.take (key.length-j))=true
 |0=>by simpa using h
 |j+1=>by
  have ih:=B7 h j;by_cases e:j<key.length
  . rw[show key.length-j=key.length-(j+1)+1 by omega,yR (by omega),jt] at ih;simp only[uq0] at ih;exact ih.1
  rw[show key.length-(j+1)=key.length-j by omega];exact ih
theorem nM {m:aJ}{key:lI}(h:eP m key=true){i:Nat}(hi:i<=key.length):eP m (key.take i)=true:=by
 have:=B7 h (key.length-i)
 rwa [show key.length-(key.length-i)=i by omega] at this
theorem Ki {m:aJ}{key:lI}(h:eP m key=true)(hk:¬(bg key key.length:Int)<m.least)(he:∀x∈key,0<=x/\x<m.ak):∀(n i:Nat),i+n=key.length→
 ∃a b,a6 m n (key.take i)=a++key::b/\key∉a/\a.length+cG m key i=cG m key key.length
 |0,i,hi=>by
  have e:key.take i=key:=by rw[show i=key.length by omega];exact cE
  refine ⟨[],[],?_,List.not_mem_nil,?_⟩
  . rw[e,a6,if_neg hk];rfl
  rw[show i=key.length by omega];simp
 |n+1,i,hi=>by
  have hlt:i<key.length:=by omega
  have hx:=he (key.getD i 0) (by rw[uq4,uq5 hlt];exact uq6 _);have hsn:=yR hlt;have mi:=nM h (show i+1<=key.length by omega);obtain ⟨a',b',h1,h2,h3⟩:=Ki h hk he n (i+1) (by omega);have ed:((key.getD i 0).toNat:Int)=key.getD i 0:=by omega
  have XU:(bK m (key.take i) ((key.getD i 0).toNat:Int)&&gb m (key.take i) ((key.getD i 0).toNat:Int))=true:=by rw[hsn,jt] at mi;simp only[uq0] at mi;rw[ed,mi.2.1,mi.2.2];rfl
  obtain ⟨r,hr⟩:=s6 m n (key.take i) ((key.getD i 0).toNat+1) (m.ak.toNat-((key.getD i 0).toNat+1));rw[show (key.getD i 0).toNat+1+(m.ak.toNat-((key.getD i 0).toNat+1))=m.ak.toNat by omega,jW,if_pos XU,ed,←hsn,h1] at hr;refine ⟨j4 m n (key.take i) (key.getD i 0).toNat++a',b'++r,?_,λhm=>?_,?_⟩
  . show j4 m n (key.take i) m.ak.toNat=_;rw[hr];simp
  . rcases bk.1 hm with hm|hm
    . obtain ⟨d,g1,g2⟩:=rm hm;rw [show (key.take i).length+1=i+1 by simp;omega,hsn] at g2;have:=List.append_cancel_left g2;injection this with this
      omega
    exact h2 hm
  rw[uq7,yP m n _ (nM h (by omega)),←h3,cG,show key.length-(i+1)=n by omega];omega
theorem p9 {m:aJ}{c:lI}(h:fault m c=0):(c.length:Int)=m.ae/\(∀x∈c,0<=x/\x<m.ak)/\eP m c=true/\¬(bg c c.length:Int)<m.least:=by
 unfold fault at h;split at h
 . cases h
 rename_i h1;split at h
 . cases h
 rename_i h2;split at h
 . cases h
 rename_i h3;split at h
 . cases h
 rename_i h4;split at h
 . cases h
 rename_i h5;refine ⟨by omega,λx hx=>?_,?_,h5⟩
 . have:=uq1.1 (by simpa using h2) x hx;simp[bA] at this;omega
 unfold eP;rw [uq1];intro i hi;have a3:=uq1.1 (by simpa using h3) i hi;have h4':((a_ c.length).all λi=>decide ((aZ c i:Int)<=m.same))=true:=by
  cases hh:((a_ c.length).all λi=>decide ((aZ c i:Int)<=m.same)) with
  |true=>rfl
  |false=>exact absurd hh h4
 have a4:=uq1.1 h4' i hi;simp only[a3,a4,Bool.and_self]
theorem Di {m:aJ}{key:lI}(h:fault m key=0):(bC (cq key) 0 (a6 m m.ae.toNat [])).1=cG m key key.length/\cG m key key.length<lR m m.ae.toNat []:=by
 obtain ⟨h1,h2,h3,h4⟩:=p9 h;obtain ⟨a,b,g1,g2,g3⟩:=Ki h3 h4 h2 key.length 0 (by omega);rw[show key.length=m.ae.toNat by omega] at g1;have g1':a6 m m.ae.toNat []=a++key::b:=g1;have g3':a.length=cG m key key.length:=by simpa [cG] using g3
 rw[g1',yO a b 0 g2,←g3'];refine ⟨by simp,?_⟩;have h0:eP m []=true:=rfl;rw[lR,if_pos h0,g1'];simp
theorem gC {m:aJ}{c:lI}(h:fD m c=true):(c.length:Int)=m.ae/\∀y∈c,0<=y/\y<m.ak:=by obtain ⟨h1,h2,_⟩:=p9 (beq_iff_eq.1 h);exact ⟨h1,h2⟩
theorem dK {m:aJ}{t ab:lL}(h:dY m t ab=true):ab.length=t.length/\∀x∈ab,fD m x=true:=by simp only[dY,uq0,beq_iff_eq,uq1] at h;exact h
theorem lS {m:aJ}{t:lL}(h:eX m t=true):aU m=true:=by simp only[eX,uq0] at h;exact h.1.1
theorem vD (m:aJ)(t ab:lL):(((gR m t ab).length:Int)==0)=(gR m t ab).isEmpty:=by
 cases gR m t ab with
 |nil=>rfl
 |cons x r=>simp;omega
theorem tY {m:aJ}{t ab:lL}(h:bh m t ab=true):eX m t=true/\dY m t ab=true:=by simp only[bh,uq0] at h;exact h.1
theorem MD (m:aJ)(t ab:lL)(h:t.length<=1048576)(h2:∀x∈t,x.length<=1048576)(h3:ab.length<=1048576)(h4:∀x∈ab,x.length<=1048576)(hs:eX m t=true):Fn pG 190 [jR m t,aQ ab] true (· =eB (dY m t ab)):=by
 have hn:=iV hs;have hq:=BZ m ab (lS hs) h3 h4;have hlen:((ab.length:Int)==(t.length:Int))=(ab.length==t.length):=by rw[Bool.eq_iff_iff];simp only[beq_iff_eq];omega
 refine Fn.au 17 [.tmp 4] func190 (hv:=?_);unfold dY;rcases hl:(ab.length==t.length) with _|_
 . simp -dsimp -implicitDefEqProofs only[go_sem,hlen,hl]
 have he:=beq_iff_eq.1 hl;rw[decide_eq_true (show _ by omega),Bool.and_true] at hq;simp -dsimp -implicitDefEqProofs only[go_sem,hlen,hl];refine aa hq ?_;simp -dsimp -implicitDefEqProofs only[go_sem]
theorem tZ (m:aJ)(t ab:lL)(h:t.length<=1048576)(h2:∀x∈t,x.length<=1048576)(h3:ab.length<=1048576)(h4:∀x∈ab,x.length<=1048576):Fn pG 139 [jR m t,aQ ab] true (· =eI (bV m t ab)):=by
 refine Fn.au 12 [.tmp 4] func139 (hv:=?_);have hq:=vz m t h h2;unfold bV;rcases hb:eX m t with _|_
 . rw[hb] at hq;simp -dsimp -implicitDefEqProofs only[go_sem];refine aa hq ?_;simp -dsimp -implicitDefEqProofs only[go_sem]
 have hr:=MD m t ab h h2 h3 h4 hb;rw[hb] at hq;simp -dsimp -implicitDefEqProofs only[go_sem];refine aa hq ?_;simp -dsimp -implicitDefEqProofs only[go_sem];refine aa hr ?_;cases dY m t ab<;>simp -dsimp -implicitDefEqProofs only[go_sem];all_goals ((with_reducible and_intros);all_goals try first|omega|(refine ⟨?_,?_⟩<;>omega)|exact rfl)
theorem F3 (m:aJ)(t ab:lL)(h:t.length<=1048576)(h2:∀x∈t,x.length<=1048576)(h3:ab.length<=1048576)(h4:∀x∈ab,x.length<=1048576):Fn pG 192 [jR m t,aQ ab] true (· =eB (bh m t ab)):=by
 refine Fn.au 16 [.tmp 4] func192 (hv:=?_);have hq:=tZ m t ab h h2 h3 h4;have hf0:=vD m t ab;rcases hb:(eX m t&&dY m t ab) with _|_
 . have hc:(bV m t ab==0)=false:=by
    unfold bV;cases h1:eX m t<;>cases h2:dY m t ab<;>simp_all
   unfold bh;rw[hb];generalize bV m t ab=c at*;simp -dsimp -implicitDefEqProofs only[go_sem];refine aa hq ?_;simp -dsimp -implicitDefEqProofs only[go_sem,hc]
 obtain ⟨h5,h6⟩:=Bool.and_eq_true_iff.1 hb;have hn:=iV h5;obtain ⟨h7,h8⟩:=dK h6;have hr:=rk m t ab (lS h5) (by omega) (by omega) (by omega) (λi hi=>hn.2.2.2.2 i hi) (by omega) (λx hx=>(gC (h8 x hx)).1);have hc:bV m t ab=0:=by rw[bV,h5,h6];rfl
 rw[hc] at hq;unfold bh;rw[hb];generalize gR m t ab=F at*;simp -dsimp -implicitDefEqProofs only[go_sem];refine aa hq ?_;simp -dsimp -implicitDefEqProofs only[go_sem];refine av (hr) (by simp[ax,ao,aq,aF]) ?_;simp -dsimp -implicitDefEqProofs only[go_sem,hf0]
theorem p_ (m:aJ)(t ab:lL)(h:t.length<=1048576)(h2:∀x∈t,x.length<=1048576)(h3:ab.length<=1048576)(h4:∀x∈ab,x.length<=1048576):Fn pG 141 [jR m t,aQ ab] true (· =eI (if bh m t ab then 0 else 1)):=by refine Fn.au 9 [.tmp 4] func141 (hv:=?_);have hq:=F3 m t ab h h2 h3 h4;simp -dsimp -implicitDefEqProofs only[go_sem];refine aa hq ?_;cases bh m t ab<;>simp -dsimp -implicitDefEqProofs only[go_sem];all_goals ((with_reducible and_intros);all_goals try first|omega|(refine ⟨?_,?_⟩<;>omega)|exact rfl)
theorem rn (m:aJ)(t ab:lL)(h:t.length<=1048576)(h2:∀x∈t,x.length<=1048576)(h3:ab.length<=1048576)(h4:∀x∈ab,x.length<=1048576):Fn pG 161 [jR m t,aQ ab] true (· =eI (bV m t ab)):=by
 refine Fn.au 21 [.tmp 4] func161 (hv:=?_);have hq:=vy m t h h2;unfold bV;rcases hb:eX m t with _|_
 . rw[hb] at hq;simp -dsimp -implicitDefEqProofs only[go_sem];refine aa hq ?_;simp -dsimp -implicitDefEqProofs only[go_sem]
 have hr:=tW m ab (lS hb) h3 h4;rw[hb] at hq;have hlen:((ab.length:Int) != (t.length:Int))= !(ab.length==t.length):=by rw[Bool.eq_iff_iff];simp only[bne_iff_ne,Bool.not_eq_true',beq_eq_false_iff_ne];omega
 unfold dY;rcases hl:(ab.length==t.length) with _|_
 . simp -dsimp -implicitDefEqProofs only[go_sem];refine aa hq ?_;simp -dsimp -implicitDefEqProofs only[go_sem,hlen,hl,Bool.not_false]
 simp -dsimp -implicitDefEqProofs only[go_sem];refine aa hq ?_;simp -dsimp -implicitDefEqProofs only[go_sem,hlen,hl,Bool.not_true];refine aa hr ?_;cases ab.all (fD m)<;>simp -dsimp -implicitDefEqProofs only[go_sem]
theorem F4 (m:aJ)(t ab:lL)(h:t.length<=1048576)(h2:∀x∈t,x.length<=1048576)(h3:ab.length<=1048576)(h4:∀x∈ab,x.length<=1048576):Fn pG 220 [jR m t,aQ ab] true (· =eB (bh m t ab)):=by
 refine Fn.au 16 [.tmp 4] func220 (hv:=?_);have hq:=rn m t ab h h2 h3 h4;have hf0:=vD m t ab;rcases hb:(eX m t&&dY m t ab) with _|_
 . have hc:(bV m t ab==0)=false:=by
    unfold bV;cases h1:eX m t<;>cases h2:dY m t ab<;>simp_all
   unfold bh;rw[hb];generalize bV m t ab=c at*;simp -dsimp -implicitDefEqProofs only[go_sem];refine aa hq ?_;simp -dsimp -implicitDefEqProofs only[go_sem,hc]
 obtain ⟨h5,h6⟩:=Bool.and_eq_true_iff.1 hb;have hn:=iV h5;obtain ⟨h7,h8⟩:=dK h6;have hr:=nJ m t ab (lS h5) (by omega) (by omega) (by omega) (λi hi=>hn.2.2.2.2 i hi) (by omega) (λx hx=>gC (h8 x hx));have hc:bV m t ab=0:=by rw[bV,h5,h6];rfl
 rw[hc] at hq;unfold bh;rw[hb];generalize gR m t ab=F at*;simp -dsimp -implicitDefEqProofs only[go_sem];refine aa hq ?_;simp -dsimp -implicitDefEqProofs only[go_sem];refine av (hr) (by simp[ax,ao,aq,aF]) ?_;simp -dsimp -implicitDefEqProofs only[go_sem,hf0]
theorem kp (m:aJ)(t ab:lL)(h:t.length<=1048576)(h2:∀x∈t,x.length<=1048576)(h3:ab.length<=1048576)(h4:∀x∈ab,x.length<=1048576):Fn pG 168 [jR m t,aQ ab] true (· =eI (if bh m t ab then 0 else 1)):=by refine Fn.au 9 [.tmp 4] func168 (hv:=?_);have hq:=F4 m t ab h h2 h3 h4;simp -dsimp -implicitDefEqProofs only[go_sem];refine aa hq ?_;cases bh m t ab<;>simp -dsimp -implicitDefEqProofs only[go_sem];all_goals ((with_reducible and_intros);all_goals try first|omega|(refine ⟨?_,?_⟩<;>omega)|exact rfl)
def k8 (set:lI):Nat->lI
 |0=>[set.getD 0 0]
 |i+1=>k8 set i++[set.getD (i+1) 0-set.getD i 0]
theorem rp (set:lI):k8 set 0=[set.getD 0 0]:=rfl
theorem nO (set:lI)(i:Nat):k8 set (i+1)=k8 set i++[set.getD (i+1) 0-set.getD i 0]:=rfl
theorem kH (set:lI):∀i,(k8 set i).length=i+1
 |0=>rfl
 |i+1=>by rw[nO,uq7,kH set i];rfl
def vE (m:aJ)(set:lI):lI:=k8 set (set.length-1)++[m.ak-1-set.getD (set.length-1) 0]
theorem Tg {m:aJ}{set:lI}(h:0<set.length):(vE m set).length=set.length+1:=by rw[vE,uq7,kH];simp;omega
theorem fO {xs:lI}{n:Int}(h:lQ xs n=true){i:Nat}(hi:i<xs.length):0<=xs.getD i 0/\xs.getD i 0<n/\(0<i->xs.getD (i-1) 0<xs.getD i 0):=by unfold lQ at h;rw[uq1] at h;have:=h i (dE.2 hi);simp only[eW,uq0,Bool.or_eq_true,decide_eq_true_eq,beq_iff_eq] at this;exact ⟨this.1.1,this.1.2,λh0=>this.2.resolve_left (by omega)⟩
theorem F5 {m:aJ}{set:lI}(h:lQ set m.ak=true):∀i,i<set.length->∀x∈k8 set i,0<=x/\x<m.ak
 |0,hi,x,hx=>by
  have:=fO h hi;simp only[rp,cM] at hx;subst hx;omega
 |i+1,hi,x,hx=>by
  rw[nO] at hx;rcases bk.1 hx with hx|hx
  . exact F5 h i (by omega) x hx
  simp only[cM] at hx;subst hx;have h1:=fO h hi;have h2:=fO h (show i<set.length by omega);have:=h1.2.2 (by omega);simp only[Nat.add_sub_cancel] at this;omega
theorem IT {m:aJ}{set:lI}(h:cK m set=true):0<set.length/\∀x∈vE m set,0<=x/\x<m.ak:=by
 simp only[cK,uq0,decide_eq_true_eq] at h;have h0:0<set.length:=by omega
 refine ⟨h0,λx hx=>?_⟩;rcases bk.1 hx with hx|hx
 . exact F5 h.2 _ (by omega) x hx
 simp only[cM] at hx;have:=fO h.2 (show set.length-1<set.length by omega);subst hx;omega
structure ZQ where
 b:lI
 w:lI
 d:lI
def pins (m:aJ)(l:lL):lL:=l.map (vE m)
theorem IU (m:aJ)(set:lI)(hm:aU m=true)(hs:cK m set=true)(h:set.length<=1048576):Fn pG 197 [kj m,aM set] true (· =aM (vE m set)):=by
 refine Fn.au 43 [.tmp 4] func197 (hv:=?_);have ⟨⟨n1,n2⟩,n3,n4⟩:=aI hm;obtain ⟨h0,hin⟩:=IT hs;have hr:lQ set m.ak=true:=by simp only[cK,uq0] at hs;exact hs.2
 have g0:=get_some h0;have hg0:set.getD 0 0=set[0]:=by simp[uq4,h0]
 simp -dsimp -implicitDefEqProofs only[go_sem,g0];refine ⟨by omega,?_⟩;refine aj.up [1,2] [13,28,29] [10] (set.length-1) (λ_=>True) (λj=>[(6,eI (1+(j:Int))),(5,.ref 10 0 0 (k8 set j).length)]) (λj=>[(10,.row 0 ⟨1,false⟩ true ((k8 set j).map eI))]) trivial ?_ rfl (λj hj _=>?_) (λ_=>?_)
 . simp -dsimp -implicitDefEqProofs only[go_sem,rp,hg0];all_goals try exact rfl
 . have hlen:=kH set j;have h1:j<set.length:=(by omega);have h2:j+1<set.length:=(by omega);have a1:=fO hr h1;have a2:=fO hr h2;have e1:set.getD j 0=set[j]:=(by simp[uq4,h1]);have e2:set.getD (j+1) 0=set[j+1]:=(by simp[uq4,h2]);have g1:set[(1+(j:Int)-1).toNat]? =some set[j]:=(by rw[show (1+(j:Int)-1).toNat=j by omega];exact get_some h1);have g2:set[(1+(j:Int)).toNat]? =some set[j+1]:=(by rw[show (1+(j:Int)).toNat=j+1 by omega];exact get_some h2);have hlt:decide (1+(j:Int)<(set.length:Int))=true:=dT (by omega);rw[nO,e1,e2];rw[e1] at a1;rw[e2] at a2;generalize k8 set j=F at*;generalize set[j]=x at*;generalize set[j+1]=y at*;have htk:=aY eI F F.length (bw _);simp -dsimp -implicitDefEqProofs only[go_sem,hlt];refine aj.draw mixed rfl ?_;simp -dsimp -implicitDefEqProofs only[go_sem,g1,g2,htk];((with_reducible and_intros);all_goals try first|omega|(refine ⟨?_,?_⟩<;>omega)|exact rfl);all_goals first|(simp;done)|skip
 have hlen:=kH set (set.length-1);have h1:set.length-1<set.length:=by omega
 have a1:=fO hr h1;have e1:set.getD (set.length-1) 0=set[set.length-1]:=by simp[uq4,h1]
 have g1:set[((set.length:Int)-1).toNat]? =some set[set.length-1]:=by rw[show ((set.length:Int)-1).toNat=set.length-1 by omega];exact get_some h1
 have hlt:decide (1+((set.length-1:Nat):Int)<(set.length:Int))=false:=dF (by omega);unfold vE;rw[e1];rw[e1] at a1;generalize k8 set (set.length-1)=F at*;generalize set[set.length-1]=x at*;have htk:=aY eI F F.length (bw _);have Ra:∀z,bp (F.length+1) (uq8 eI F++[eI z])=uq8 eI F++[eI z]:=λz=>b7 (by simp);simp -dsimp -implicitDefEqProofs only[go_sem,hlt];refine aj.draw mixed rfl ?_;simp -dsimp -implicitDefEqProofs only[go_sem,g1,htk,Ra];((with_reducible and_intros);all_goals try first|omega|(refine ⟨?_,?_⟩<;>omega)|exact rfl);all_goals first|(simp;done)|skip
theorem ME (m:aJ)(set:lI)(hm:aU m=true)(hs:cK m set=true)(h:set.length<=1048576):Fn pG 216 [kj m,aM set] true (· =aM (vE m set)):=by
 refine Fn.au 43 [.tmp 4] func216 (hv:=?_);have ⟨⟨n1,n2⟩,n3,n4⟩:=aI hm;obtain ⟨h0,hin⟩:=IT hs;have hr:lQ set m.ak=true:=by simp only[cK,uq0] at hs;exact hs.2
 have g0:=get_some h0;have hg0:set.getD 0 0=set[0]:=by simp[uq4,h0]
 simp -dsimp -implicitDefEqProofs only[go_sem,g0];refine ⟨by omega,?_⟩;refine aj.up [1,2] [13,28,29] [10] (set.length-1) (λ_=>True) (λj=>[(6,eI (1+(j:Int))),(5,.ref 10 0 0 (k8 set j).length)]) (λj=>[(10,.row 0 ⟨1,false⟩ true ((k8 set j).map eI))]) trivial ?_ rfl (λj hj _=>?_) (λ_=>?_)
 . simp -dsimp -implicitDefEqProofs only[go_sem,rp,hg0];all_goals try exact rfl
 . have hlen:=kH set j;have h1:j<set.length:=(by omega);have h2:j+1<set.length:=(by omega);have a1:=fO hr h1;have a2:=fO hr h2;have e1:set.getD j 0=set[j]:=(by simp[uq4,h1]);have e2:set.getD (j+1) 0=set[j+1]:=(by simp[uq4,h2]);have g1:set[(1+(j:Int)-1).toNat]? =some set[j]:=(by rw[show (1+(j:Int)-1).toNat=j by omega];exact get_some h1);have g2:set[(1+(j:Int)).toNat]? =some set[j+1]:=(by rw[show (1+(j:Int)).toNat=j+1 by omega];exact get_some h2);have hlt:decide (1+(j:Int)<(set.length:Int))=true:=dT (by omega);rw[nO,e1,e2];rw[e1] at a1;rw[e2] at a2;generalize k8 set j=F at*;generalize set[j]=x at*;generalize set[j+1]=y at*;have htk:=aY eI F F.length (bw _);simp -dsimp -implicitDefEqProofs only[go_sem,hlt];refine aj.draw mixed rfl ?_;simp -dsimp -implicitDefEqProofs only[go_sem,g1,g2,htk];((with_reducible and_intros);all_goals try first|omega|(refine ⟨?_,?_⟩<;>omega)|exact rfl);all_goals first|(simp;done)|skip
 have hlen:=kH set (set.length-1);have h1:set.length-1<set.length:=by omega
 have a1:=fO hr h1;have e1:set.getD (set.length-1) 0=set[set.length-1]:=by simp[uq4,h1]
 have g1:set[((set.length:Int)-1).toNat]? =some set[set.length-1]:=by rw[show ((set.length:Int)-1).toNat=set.length-1 by omega];exact get_some h1
 have hlt:decide (1+((set.length-1:Nat):Int)<(set.length:Int))=false:=dF (by omega);unfold vE;rw[e1];rw[e1] at a1;generalize k8 set (set.length-1)=F at*;generalize set[set.length-1]=x at*;have htk:=aY eI F F.length (bw _);have Ra:∀z,bp (F.length+1) (uq8 eI F++[eI z])=uq8 eI F++[eI z]:=λz=>b7 (by simp);simp -dsimp -implicitDefEqProofs only[go_sem,hlt];refine aj.draw mixed rfl ?_;simp -dsimp -implicitDefEqProofs only[go_sem,g1,htk,Ra];((with_reducible and_intros);all_goals try first|omega|(refine ⟨?_,?_⟩<;>omega)|exact rfl);all_goals first|(simp;done)|skip
theorem MF (m:aJ)(l:lL)(hm:aU m=true)(hl:fv m l=true)(h2:∀x∈l,x.length<=1048576):Fn pG 148 [kj m,sT l] false (· =aQ (pins m l)):=by
 have ⟨⟨n1,n2⟩,n3,n4⟩:=aI hm;simp only[fv,uq0,uq1,beq_iff_eq] at hl;obtain ⟨hl1,hl2⟩:=hl;refine Fn.bP 26 [.tmp 4] func148 (hv:=?_);simp -dsimp -implicitDefEqProofs only[go_sem];refine aj.up [2,3] [11,22,23,24] [7] l.length (λ_=>True) (λi=>[(6,eI i),(5,.ref 7 0 0 i)]) (λi=>[(7,.row 0 ⟨1,false⟩ (i==0) (((l.take i).map (vE m)).map aM))]) trivial ?_ rfl (λi hi _=>?_) (λ_=>?_)
 . simp -dsimp -implicitDefEqProofs only[go_sem,c_,List.map_nil]
 . have gi:=get_some hi;have li:=aE hi;have hq:=IU m l[i] hm (hl2 _ (uq6 hi)) (h2 _ (uq6 hi));have ht:(l.take (i+1)).map (vE m)=(l.take i).map (vE m)++[vE m l[i]]:=(by rw[dh hi,List.map_append];rfl);have hln:((l.take i).map (vE m)).length=i:=(by simp;omega);rw[ht];generalize (l.take i).map (vE m)=F at*;generalize vE m l[i]=s at*;generalize l[i]=x at*;have htk:=aY aM F i (by omega);have e0:(i+1==0)=false:=rfl;have e2:uq8 aM (F++[s])=uq8 aM F++[aM s]:=(by simp);simp -dsimp -implicitDefEqProofs only[go_sem,li];refine aj.draw mixed rfl ?_;simp -dsimp -implicitDefEqProofs only[go_sem,gi];((with_reducible and_intros);all_goals try omega);refine an hq ?_;simp -dsimp -implicitDefEqProofs only[go_sem];refine .inr ⟨by omega,by omega,(by cases i with|zero=>exact .inr rfl|succ i=>exact .inl rfl),by exact rfl,⟨by omega,by omega⟩,rfl,?_⟩;rw[e0,e2];simp -dsimp -implicitDefEqProofs only[go_sem,htk]
 rw[cE];unfold pins;have hln:(l.map (vE m)).length=l.length:=by simp
 generalize l.map (vE m)=F at*;have htk:=aY aM F l.length (by omega);simp -dsimp -implicitDefEqProofs only[go_sem,aA];((with_reducible and_intros);all_goals try omega);all_goals rw[htk]
theorem P7 (m:aJ)(l:lL)(hm:aU m=true)(hl:fv m l=true)(h2:∀x∈l,x.length<=1048576):Fn pG 164 [kj m,sT l] false (· =aQ (pins m l)):=by
 have ⟨⟨n1,n2⟩,n3,n4⟩:=aI hm;simp only[fv,uq0,uq1,beq_iff_eq] at hl;obtain ⟨hl1,hl2⟩:=hl;refine Fn.bP 24 [.tmp 4] func164 (hv:=?_);simp -dsimp -implicitDefEqProofs only[go_sem];refine aj.up [2,10,11] [19,20,21] [8] l.length (λ_=>True) (λi=>[(12,eI i),(5,.ref 8 0 0 i)]) (λi=>[(8,.row 0 ⟨1,false⟩ (i==0) (((l.take i).map (vE m)).map aM))]) trivial ?_ rfl (λi hi _=>?_) (λ_=>?_)
 . simp -dsimp -implicitDefEqProofs only[go_sem,c_,List.map_nil]
 . have gi:=get_some hi;have li:=aE hi;have hq:=ME m l[i] hm (hl2 _ (uq6 hi)) (h2 _ (uq6 hi));have ht:(l.take (i+1)).map (vE m)=(l.take i).map (vE m)++[vE m l[i]]:=(by rw[dh hi,List.map_append];rfl);have hln:((l.take i).map (vE m)).length=i:=(by simp;omega);rw[ht];generalize (l.take i).map (vE m)=F at*;generalize vE m l[i]=s at*;generalize l[i]=x at*;have htk:=aY aM F i (by omega);have e0:(i+1==0)=false:=rfl;have e2:uq8 aM (F++[s])=uq8 aM F++[aM s]:=(by simp);simp -dsimp -implicitDefEqProofs only[go_sem,li,gi];((with_reducible and_intros);all_goals try omega);refine aa hq ?_;simp -dsimp -implicitDefEqProofs only[go_sem];refine .inr ⟨by omega,by omega,(by cases i with|zero=>exact .inr rfl|succ i=>exact .inl rfl),⟨by omega,by omega⟩,rfl,?_⟩;rw[e0,e2];simp -dsimp -implicitDefEqProofs only[go_sem,htk]
 rw[cE];unfold pins;have hln:(l.map (vE m)).length=l.length:=by simp
 generalize l.map (vE m)=F at*;have htk:=aY aM F l.length (by omega);simp -dsimp -implicitDefEqProofs only[go_sem,aA];((with_reducible and_intros);all_goals try omega);all_goals rw[htk]
def bx (m:aJ):lL:=a6 m m.ae.toNat []
theorem P8 (m:aJ):lR m m.ae.toNat []=(bx m).length:=by rw[lR,if_pos (show eP m []=true from rfl)];rfl
structure qG (m:aJ) (k:lI):Prop where
 len:(k.length:Int)=m.ae
 ok:eP m k=true
 kinds:¬(bg k k.length:Int)<m.least
 el:∀x∈k,0<=x/\x<m.ak
theorem vF {m:aJ}:∀(n:Nat) (c k:lI),eP m c=true->(∀x∈c,0<=x/\x<m.ak)->k∈a6 m n c->k.length=c.length+n/\eP m k=true/\¬(bg k k.length:Int)<m.least/\∀x∈k,0<=x/\x<m.ak
 |0,c,k,h1,h2,h=>by
  simp only[a6] at h;split at h
  . cases h
  rename_i hk;rw[cM] at h;subst h;exact ⟨rfl,h1,hk,h2⟩
 |n+1,c,k,h1,h2,h=>by
  simp only[a6,List.mem_flatMap,dE] at h;obtain ⟨d,hd,h⟩:=h;split at h
  . rename_i hc
    obtain ⟨g1,g2⟩:=vF n (c++[(d:Int)]) k (by rw [jt,h1,Bool.true_and];exact hc) (λx hx=>by
     rcases bk.1 hx with h|h
     . exact h2 x h
     simp at h;omega) h
    exact ⟨by rw[g1];simp;omega,g2⟩
  cases h
theorem kq {m:aJ}(hm:0<=m.ae){k:lI}(h:k∈bx m):qG m k:=by obtain ⟨h1,h2,h3,h4⟩:=vF m.ae.toNat [] k rfl (λx hx=>by cases hx) h;exact ⟨by rw[h1];simp;omega,h2,h3,h4⟩
theorem qG.P9 {m:aJ}{k:lI}(h:fault m k=0):qG m k:=by obtain ⟨h1,h2,h3,h4⟩:=p9 h;exact ⟨h1,h3,h4,h2⟩
theorem qG.fault {m:aJ}{k:lI}(h:qG m k):fault m k=0:=by
 obtain ⟨h1,h2,h3,h4⟩:=h;unfold Go.Vc.fault;rw[if_neg (by omega)];have e2:(k.all λx=>bA x 0 (m.ak-1))=true:=by rw[uq1];intro x hx;have:=h4 x hx;simp[bA];omega
 unfold eP at h2;rw[uq1] at h2;have e3:((a_ k.length).all λi=>cw m k i)=true:=by rw[uq1];intro i hi;have:=h2 i hi;simp only[uq0] at this;exact this.2
 have e4:((a_ k.length).all λi=>decide ((aZ k i:Int)<=m.same))=true:=by rw[uq1];intro i hi;have:=h2 i hi;simp only[uq0] at this;exact this.1
 simp[e2,e3,e4,h3]
theorem pn {m:aJ}:∀(n:Nat) (c:lI),(a6 m n c).Nodup
 |0,c=>by
  simp only[a6];split
  . exact List.nodup_nil
  simp
 |n+1,c=>by
  show (j4 m n c m.ak.toNat).Nodup;have key:∀D,(j4 m n c D).Nodup:=by
   intro D;induction D with
   |zero=>exact List.nodup_nil
   |succ D ih=>
    rw[jW,List.nodup_append];refine ⟨ih,?_,λa ha b hb=>?_⟩
    . split
      . exact pn n _
      exact List.nodup_nil
    rintro rfl;obtain ⟨d,hd,g⟩:=rm ha;split at hb
    . have g2:=(nK m n _ a hb).1;have e:(c++[(D:Int)]).length=c.length+1:=(by simp);rw [e,g] at g2;have:=List.append_cancel_left g2;injection this with this _
      omega
    cases hb
  exact key _
def F6 (m:aJ)(c:lI)(i:Nat):Bool:=decide ((aZ c i:Int)<=m.same)&&cw m c i
theorem lT (m:aJ)(c:lI)(hm:aU m=true)(h:c.length<=6)(hel:∀x∈c,0<=x/\x<=7):Fn pG 127 [kj m,aM c] true (· =eB (eP m c)):=by
 refine Fn.au 53 [.tmp 4] func127 (hv:=?_);have hF:eP m c=(a_ c.length).all (F6 m c):=rfl;simp -dsimp -implicitDefEqProofs only[go_sem];refine aj.up [1,2] [9,47] [] c.length (λi=>(a_ i).all (F6 m c)=true) (λi=>[(6,eI i),(5,eI (dB c i))]) (λ_=>[]) (by simp) ?_ rfl (λi hi hI=>?_) (λhI=>?_)
 . rw[show dB c 0=0 from rfl];simp -dsimp -implicitDefEqProofs only[go_sem]
 . have no:F6 m c i=false->eP m c=false:=λh=>by rw [hF];exact b8 hi h
   have yes:F6 m c i=true->(a_ (i+1)).all (F6 m c)=true:=λh=>by rw[bj,hI,h];rfl
   have hrb:dB c i<=i/\dB c (i+1)<=i+1:=by
    refine ⟨?_,(il c i).2.1⟩;rw[dB];split
    . omega
    have:=(il c (i-1)).2.1;omega
   have e1:=hel c[i] (uq6 hi);have gi:=get_some hi;have li:=aE hi;have hok:F6 m c i=(decide (((dB c (i+1):Nat):Int)<=m.same)&&cw m c i):=rfl;clear hF hI;by_cases hi0:0<i
   rotate_left
   . have g3:decide ((i:Int)>0)=false:=(by simp;omega);have hR:dB c i=0/\dB c (i+1)=1:=by
      have e0:i=0:=(by omega);subst e0;exact ⟨rfl,by show aZ c 0=1;unfold aZ;rfl⟩
     have hs:F6 m c i=true:=by have e0:i=0:=(by omega);have:=kF hm;rw[hok,hR.2];subst e0;have:decide (((1:Nat):Int)<=m.same)=true:=dT (by omega);rw[this];rfl
     have i_:decide ((1:Int)>m.same)=false:=dF (by have:=kF hm;omega);rw[hR.1,hR.2];clear hR hrb no;have yes:=yes hs;simp -dsimp -implicitDefEqProofs only[go_sem,li]
     repeat' first
      |(refine Br.intro (λ_=>?_) (λ_=>?_)<;>try simp -dsimp -implicitDefEqProofs only[go_sem, *])
      |(with_reducible refine ai ?_ ?_)
      |(refine aj.draw mixed rfl ?_;try simp -dsimp -implicitDefEqProofs only[go_sem,g3])
     all_goals (first|(refine ⟨?_,?_⟩<;>omega)|(simp;done)|rfl|(simp_all;done)|(simp_all;omega)|skip)
   have hi':i-1<c.length:=(by omega);have e2:=hel c[i-1] (uq6 hi');have g2:c[((i:Int)-1).toNat]? =some c[i-1]:=(by rw [pred_toNat hi0];exact get_some hi');have g3:decide ((i:Int)>0)=true:=(by simp;omega);have hs:cw m c i= !decide (fm (c[i]-c[i-1])>m.step):=by
    rw[cw,show (i==0)=false by simp;omega];have q1:c.getD i 0=c[i]:=(by simp[uq4,hi]);have q2:c.getD (i-1) 0=c[i-1]:=(by simp[uq4,hi']);rw[q1,q2,Bool.false_or];by_cases hq:fm (c[i]-c[i-1])<=m.step
    . rw[decide_eq_true hq,decide_eq_false (by omega)];rfl
    rw[decide_eq_false hq,decide_eq_true (by omega)];rfl
   have hR:((dB c (i+1):Nat):Int)=if (c[i]==c[i-1])=true then (dB c i:Int)+1 else 0+1:=by
    obtain ⟨j,rfl⟩:∃j,i=j+1:=⟨i-1,by omega⟩;rw[show dB c (j+1+1)=aZ c (j+1) from rfl,show dB c (j+1)=aZ c j from rfl,aZ];simp only[Nat.add_sub_cancel];have q1:c.getD (j+1) 0=c[j+1]:=(by simp[uq4,hi]);have q2:c.getD j 0=c[j]:=(by simp[uq4,show j<c.length by omega]);rw[q1,q2];by_cases hq:c[j+1]=c[j]
    . rw[if_pos hq,if_pos (by simpa using hq)];simp
    rw[if_neg hq,if_neg (by simpa using hq)];simp
   have rJ:F6 m c i=(!decide (((dB c (i+1):Nat):Int)>m.same)&& !decide (fm (c[i]-c[i-1])>m.step)):=by
    rw[hok,hs];congr 1;by_cases hq:((dB c (i+1):Nat):Int)<=m.same
    . rw[decide_eq_true hq,decide_eq_false (by omega)];rfl
    rw[decide_eq_false hq,decide_eq_true (by omega)];rfl
   clear hok hs;rw[rJ] at no yes;clear rJ;have ql:=F1 (c[i]-c[i-1]) (by omega);rcases hq1:(c[i]==c[i-1]) with _|_
   all_goals
    rw[hq1] at hR;simp only[if_true,Bool.false_eq_true,if_false] at hR;have hne:(c[i] != c[i-1])= !(c[i]==c[i-1]):=rfl;rw[hq1] at hne;rw[hR] at no yes;rcases hq2:decide (fm (c[i]-c[i-1])>m.step) with _|_
   all_goals
    first
     |(rcases hq3:decide ((dB c i:Int)+1>m.same) with _|_)
     |skip
   all_goals
    generalize dB c i=R at*;generalize dB c (i+1)=R' at*;simp -dsimp -implicitDefEqProofs only[pz,cm,fu,e8,↓reduceIte,eZ];try rw[hR]
    simp -dsimp -implicitDefEqProofs only[go_sem,li]
    repeat' first
     |(refine Br.intro (λ_=>?_) (λ_=>?_)<;>try simp -dsimp -implicitDefEqProofs only[go_sem, *])
     |(with_reducible refine ai ?_ ?_)
     |(refine aj.draw mixed rfl ?_;try simp -dsimp -implicitDefEqProofs only[go_sem,gi,g2,g3])
     |(refine an (ql) ?_;try simp -dsimp -implicitDefEqProofs only[go_sem, *])
    all_goals first
     |(rw[no (by simp_all)];done)
     |(rw[←ba];exact yes (by simp_all))
     |(first|omega|(refine ⟨?_,?_⟩<;>omega)|(simp;done)|rfl|(simp_all;done)|skip)
 rw[←hF] at hI;rw[hI];simp -dsimp -implicitDefEqProofs only[go_sem,aA]
theorem F7 (xs ys:lI)(h:xs.length<=9223372036854775807):Fn pG 227 [aM xs,aM ys] true (· =eB (decide (xs=ys))):=by
 refine Fn.au 26 [.tmp 4] func227 (hv:=?_);simp -dsimp -implicitDefEqProofs only[go_sem];repeat' (refine Br.intro (λ_=>?_) (λ_=>?_)<;>try simp -dsimp -implicitDefEqProofs only[go_sem, *])
 . rw[decide_eq_false];intro e;subst e;simp_all
 have h1:xs.length=ys.length:=by simp_all<;>omega
 refine aj.up [0,1,12] [] [] xs.length (λi=>xs.take i=ys.take i) (λi=>[(13,eI i)]) (λ_=>[]) rfl ?_ rfl (λi hi hI=>?_) (λhI=>?_)
 . simp -dsimp -implicitDefEqProofs only[go_sem]
 . simp -dsimp -implicitDefEqProofs only [pz,↓reduceIte,eZ];have hy:i<ys.length:=(by omega);have no:xs[i]≠ys[i]->decide (xs=ys)=false:=PO hi hy;have yes:xs[i]=ys[i]->xs.take (i+1)=ys.take (i+1):=IA hi hy hI;simp -dsimp -implicitDefEqProofs only [go_sem,aE hi];refine aj.draw mixed rfl ?_;simp -dsimp -implicitDefEqProofs only [go_sem,get_some hi,get_some hy]
   repeat' first
    |(refine Br.intro (λ_=>?_) (λ_=>?_)<;>try simp -dsimp -implicitDefEqProofs only[go_sem, *])
    |(with_reducible refine ai ?_ ?_)
    |fail
   all_goals first
    |omega
    |(refine ⟨?_,?_⟩<;>omega)
    |rfl
    |(rw[no];clear no yes;simp_all;done)
    |(refine yes ?_;clear no yes;simp_all;done)
 simp -dsimp -implicitDefEqProofs only[go_sem,aA];have h3:xs=ys:=by rw[←cE (l:=xs),hI,h1,cE]
 simp[h3]
theorem Xi (c:lI)(af:Nat)(ys:lA)(s:Int)(hc:c.length<=6)(hy:ys.take c.length=c.map eI)(hs:0<=s/\s<=1000000):
 fN pG 228 [(1700000010,.row af ⟨1,false⟩ true ys),(1500000005,.box 0 [eI s])] [.ref 1700000010 af 0 c.length,.ptr 1500000005 0 0 0]
  (λr m'=>r=eB (fJ s c).2/\m'=[(1700000010,.row af ⟨1,false⟩ true ys),(1500000005,.box 0 [eI (fJ s c).1])]):=by
 refine fN.cT 6 [.tmp 3] func228 (hv:=?_);simp -dsimp -implicitDefEqProofs only[go_sem];refine ⟨⟨by omega,by omega⟩,_,⟨rfl,rfl⟩,aO ?_ ?_⟩
 . simp -dsimp -implicitDefEqProofs only[go_sem,fJ]
 simp -dsimp -implicitDefEqProofs only[go_sem];simp
theorem Xj (m:aJ)(hm:aU m=true):∀(n:Nat) (c:lI) (t:KS Int),(c.length:Int)+n=m.ae->(∀x∈c,0<=x/\x<=7)->DW c t->(0<=t.s/\t.s+8^n<=1000000)→
 fN pG 262 [(1700000008,.box 0 [.ref 1700000010 t.af 0 c.length]),(1700000010,.row t.af ⟨1,false⟩ true (t.zs.map eI)),(1700000004,.box 0 [eI m.ae,eI m.ak,eI m.step,eI m.same,eI m.least]),(1700000007,.box 0 [.cn 228 [.ptr 1500000005 0 0 0]]),(1700000005,.box 0 [.val (.slice none 0 0)]),(1700000006,.box 0 [.val .nilFunc]),(1700000009,.box 0 [.cn 262 [.ptr 1700000008 0 0 0,.ptr 1700000004 0 0 0,.ptr 1700000007 0 0 0,.ptr 1700000005 0 0 0,.ptr 1700000006 0 0 0,.ptr 1700000009 0 0 0]]),(1500000005,.box 0 [eI t.s])] [eB false,.ptr 1700000008 0 0 0,.ptr 1700000004 0 0 0,.ptr 1700000007 0 0 0,.ptr 1700000005 0 0 0,.ptr 1700000006 0 0 0,.ptr 1700000009 0 0 0]
  (λr m'=>r=eB (bn m fJ n c t).2/\m'=[(1700000008,.box 0 [.ref 1700000010 (bn m fJ n c t).1.af 0 c.length]),(1700000010,.row (bn m fJ n c t).1.af ⟨1,false⟩ true ((bn m fJ n c t).1.zs.map eI)),(1700000004,.box 0 [eI m.ae,eI m.ak,eI m.step,eI m.same,eI m.least]),(1700000007,.box 0 [.cn 228 [.ptr 1500000005 0 0 0]]),(1700000005,.box 0 [.val (.slice none 0 0)]),(1700000006,.box 0 [.val .nilFunc]),(1700000009,.box 0 [.cn 262 [.ptr 1700000008 0 0 0,.ptr 1700000004 0 0 0,.ptr 1700000007 0 0 0,.ptr 1700000005 0 0 0,.ptr 1700000006 0 0 0,.ptr 1700000009 0 0 0]]),(1500000005,.box 0 [eI (bn m fJ n c t).1.s])]):=by
 intro n;have ⟨⟨zy,zz⟩,hd1,hd2⟩:=aI hm;induction n with
 |zero=>
  intro c t hl hc hz hs;have hk:((c.length:Int)==m.ae)=true:=beq_iff_eq.2 (by omega);have ht:bp c.length (uq8 eI t.zs)=uq8 eI c:=by rw[←uq9,hz.1]
  have hzl:c.length<=(uq8 eI t.zs).length:=by simpa using hz.2
  refine fN.cT 91 [.tmp 8] func262 (hv:=?_);simp -dsimp -implicitDefEqProofs only[go_sem,hk];refine aj.lB 8 mixed rfl ?_;simp -dsimp -implicitDefEqProofs only[eR,c_,uq2,uq3];have tf:=iE c (by omega);rcases hq:decide ((bg c c.length:Int)<m.least) with _|_
  . have hq':=of_decide_eq_false hq;have e6:bn m fJ 0 c t=(⟨t.af,t.zs,(fJ t.s c).1⟩,(fJ t.s c).2):=(by rw [bn,if_neg hq']);rw [e6];simp -dsimp -implicitDefEqProofs only [go_sem,ht,uq3];refine ⟨hz.2,?_⟩;(refine an (tf) ?_;try simp -dsimp -implicitDefEqProofs only [go_sem, *]);refine ⟨by exact rfl,hz.2,?_⟩;refine cU (Xi c t.af (t.zs.map eI) t.s (by omega) ht (by omega)) ⟨⟨?_,?_⟩,?_,?_⟩ ?_
    . simp -dsimp -implicitDefEqProofs only[go_sem]
    . simp -dsimp -implicitDefEqProofs only[go_sem];simp
    . simp -dsimp -implicitDefEqProofs only[go_sem]
    . simp -dsimp -implicitDefEqProofs only[go_sem];simp
    rintro r m' ⟨hr,hm'⟩;rw[hr,hm'];simp -dsimp -implicitDefEqProofs only[go_sem];refine ⟨_,rfl,aO ?_ ?_⟩
    . simp -dsimp -implicitDefEqProofs only[go_sem]
    simp -dsimp -implicitDefEqProofs only[go_sem];simp[ao,aq,ck]
  have hq':=oT hq;have e6:bn m fJ 0 c t=(t,true):=by rw[bn,if_pos hq']
  rw[e6];simp -dsimp -implicitDefEqProofs only[go_sem,ht,uq3];refine ⟨hz.2,?_⟩;(refine an (tf) ?_;try simp -dsimp -implicitDefEqProofs only[go_sem, *]);refine ⟨by exact rfl,_,rfl,aO ?_ ?_⟩
  . simp -dsimp -implicitDefEqProofs only[go_sem]
  simp -dsimp -implicitDefEqProofs only[go_sem];simp[ao,aq,ck]
 |succ n ih=>
  intro c t hl hc hz hs;have hk:((c.length:Int)==m.ae)=false:=beq_eq_false_iff_ne.2 (by omega);refine fN.cT 91 [.tmp 8] func262 (hv:=?_);simp -dsimp -implicitDefEqProofs only[go_sem,hk];refine aj.up [0,1,2,5,6,9,10] [47,61,69,70,72,84] [1700000008,1700000010,1500000005] m.ak.toNat (λi=>(eO (aT m fJ n c) t i).2=true) (λi=>[(11,eI i)]) (λi=>[(1700000008,.box 0 [.ref 1700000010 (eO (aT m fJ n c) t i).1.af 0 c.length]),(1700000010,.row (eO (aT m fJ n c) t i).1.af ⟨1,false⟩ true ((eO (aT m fJ n c) t i).1.zs.map eI)),(1500000005,.box 0 [eI (eO (aT m fJ n c) t i).1.s])]) rfl ?_ rfl (λi hi hI=>?_) (λhI=>?_)
  . simp -dsimp -implicitDefEqProofs only[go_sem];simp[eO]
  . have hu:DW c (eO (aT m fJ n c) t i).1:=p8 hz i;have hb:=wv hm (yN hm (f:=fJ) (λs k=>⟨(by show s<=s+1;omega),Int.le_refl _⟩) n) t i (c:=c);have hp:(0:Int)<8^n:=Int.pow_pos (by decide);have h8:(i:Int)*8^n<=7*8^n:=Int.mul_le_mul_of_nonneg_right (by omega) (by omega);have h9:(8:Int)^(n+1)=8*8^n:=(by rw [Int.pow_succ,Int.mul_comm]);have hlt:decide ((i:Int)<m.ak)=true:=dT (by omega);have hS:=iW hI;have cy:(aT m fJ n c i (eO (aT m fJ n c) t i).1).2=false->bn m fJ (n+1) c t=aT m fJ n c i (eO (aT m fJ n c) t i).1:=λh=>by
     rw[←hS] at h ⊢;rw[dS,pj h m.ak.toNat (by omega)]
    rw[hS];clear hS hI;generalize (eO (aT m fJ n c) t i).1=u at*;obtain ⟨hu1,hu2⟩:=hu;have htk:bp c.length (uq8 eI u.zs)=uq8 eI c:=(by rw[←uq9,hu1]);have kx:0<=u.s/\u.s+8^n<=1000000:=(by omega);have hcl:c.length<=6:=(by omega)
    have hih:=ih (c++[(i:Int)]) ⟨u.af+1,c++[(i:Int)],u.s⟩ (by simp;omega) (λx hx=>by
     rcases bk.1 hx with h|h
     . exact hc x h
     simp at h;omega) ⟨cE,bw _⟩ kx
    simp only [uq7,List.length_cons,List.length_nil,Nat.zero_add] at hih;have cH:=kE (c++[(i:Int)]) (by simp) (by simp;omega);simp only [uq7,List.length_cons,List.length_nil,Nat.zero_add,Nat.add_sub_cancel] at cH;have oB:uq8 eI c++[eI (i:Int)]=uq8 eI (c++[(i:Int)]):=(by simp);have l8:bK m c i=(c.isEmpty|| !decide (fm ((i:Int)-c.getD (c.length-1) 0)>m.step)):=by
     unfold bK;congr 1;by_cases h:fm ((i:Int)-c.getD (c.length-1) 0)<=m.step
     . rw[decide_eq_true h,decide_eq_false (by omega)];rfl
     rw[decide_eq_false h,decide_eq_true (by omega)];rfl
    have dM:gb m c i= !decide ((aZ (c++[(i:Int)]) c.length:Int)>m.same):=by
     unfold gb;by_cases h:(aZ (c++[(i:Int)]) c.length:Int)<=m.same
     . rw[decide_eq_true h,decide_eq_false (by omega)];rfl
     rw[decide_eq_false h,decide_eq_true (by omega)];rfl
    simp -dsimp -implicitDefEqProofs only[go_sem,hlt];refine aj.draw mixed rfl ?_;have hfn:rR pG 216 .neq=some false:=rfl;rcases hk0:decide ((c.length:Int)>0) with _|_
    . have hce:c=[]:=by
       have:=of_decide_eq_false hk0;exact List.eq_nil_of_length_eq_zero (by omega)
      have hsT:bK m c i=true:=(by rw[hce];rfl);clear hce;simp -dsimp -implicitDefEqProofs only[go_sem,hfn,hk0];refine ⟨by exact rfl,hu2,by omega,?_⟩;refine aj.lB 13 mixed rfl ?_;simp -dsimp -implicitDefEqProofs only[eR,c_,uq2,uq3];have htl:bp (c.length+1) (uq8 eI (c++[(i:Int)]))=uq8 eI (c++[(i:Int)]):=b7 (by simp);rcases hq2:decide ((aZ (c++[(i:Int)]) c.length:Int)>m.same) with _|_
      . have hcB:aT m fJ n c i u=bn m fJ n (c++[(i:Int)]) ⟨u.af+1,c++[(i:Int)],u.s⟩:=(by rw [aT,if_pos hsT,if_pos (by rw [dM,hq2];rfl),hu1]);rw [hcB] at cy ⊢;clear hcB;generalize bn m fJ n (c++[(i:Int)]) ⟨u.af+1,c++[(i:Int)],u.s⟩=w at*;obtain ⟨w,b⟩:=w;simp -dsimp -implicitDefEqProofs only [go_sem,htk,oB,htl];(refine an (cH) ?_;try simp -dsimp -implicitDefEqProofs only [go_sem, *]);refine ⟨by exact rfl,?_⟩;refine cU hih ⟨⟨?_,?_⟩,?_,?_⟩ ?_
        . simp -dsimp -implicitDefEqProofs only[go_sem]
        . simp -dsimp -implicitDefEqProofs only[go_sem];simp[ao,aq,ck]
        . simp -dsimp -implicitDefEqProofs only[go_sem]
        . simp -dsimp -implicitDefEqProofs only[go_sem];simp
        rintro r m' ⟨hr,hm'⟩;rw[hr,hm'];clear hr hm';cases b with
        |false=>
         rw[cy rfl];simp -dsimp -implicitDefEqProofs only[go_sem];refine ⟨by omega,_,rfl,aO ?_ ?_⟩
         . simp -dsimp -implicitDefEqProofs only[go_sem]
         simp -dsimp -implicitDefEqProofs only[go_sem];simp[ao,aq,ck]
        |true=>
         simp -dsimp -implicitDefEqProofs only[go_sem];exact ⟨by omega,⟨by omega,by omega⟩,by simp⟩
      have hcB:aT m fJ n c i u=(⟨u.af+1,c++[(i:Int)],u.s⟩,true):=(by rw[aT,if_pos hsT,if_neg (by rw[dM,hq2];exact λh=>by cases h),hu1]);rw[hcB];clear hcB cy;simp -dsimp -implicitDefEqProofs only[go_sem,htk,oB,htl];(refine an (cH) ?_;try simp -dsimp -implicitDefEqProofs only[go_sem, *]);exact ⟨by exact rfl,by omega,⟨by omega,by omega⟩,by simp⟩
    have hkp:=oT hk0;have hla:c.getD (c.length-1) 0=c[c.length-1]:=(by simp[uq4,show c.length-1<c.length by omega]);have kc:(uq8 eI u.zs)[c.length-1]? =some (eI (c.getD (c.length-1) 0)):=by have h1:(bp c.length (uq8 eI u.zs))[c.length-1]? =(uq8 eI u.zs)[c.length-1]? :=(by rw[List.getElem?_take];simp;omega);rw[←h1,htk,hla];simp[show c.length-1<c.length by omega]
    have hlb:=hc _ (uq6 (show c.length-1<c.length by omega));rw[←hla] at hlb;generalize c.getD (c.length-1) 0=z at*;clear hla;have e1:((c.length:Int)-1).toNat=c.length-1:=(by omega);have ql:=jr ((i:Int)-z) (by omega);rcases hq:decide (fm ((i:Int)-z)>m.step) with _|_
    . have hsT:bK m c i=true:=(by rw [l8,hq];simp);simp -dsimp -implicitDefEqProofs only [go_sem,hfn,hk0,e1,kc];refine ⟨⟨by omega,by omega⟩,⟨by omega,by omega⟩,⟨by omega,by omega⟩,?_⟩;(refine an (ql) ?_;try simp -dsimp -implicitDefEqProofs only [go_sem, *]);refine ⟨by exact rfl,by omega,?_⟩;refine aj.lB 13 mixed rfl ?_;simp -dsimp -implicitDefEqProofs only [eR,c_,uq2,uq3];have htl:bp (c.length+1) (uq8 eI (c++[(i:Int)]))=uq8 eI (c++[(i:Int)]):=b7 (by simp);rcases hq2:decide ((aZ (c++[(i:Int)]) c.length:Int)>m.same) with _|_
      . have hcB:aT m fJ n c i u=bn m fJ n (c++[(i:Int)]) ⟨u.af+1,c++[(i:Int)],u.s⟩:=(by rw [aT,if_pos hsT,if_pos (by rw [dM,hq2];rfl),hu1]);rw [hcB] at cy ⊢;clear hcB;generalize bn m fJ n (c++[(i:Int)]) ⟨u.af+1,c++[(i:Int)],u.s⟩=w at*;obtain ⟨w,b⟩:=w;simp -dsimp -implicitDefEqProofs only [go_sem,htl];(refine an (cH) ?_;try simp -dsimp -implicitDefEqProofs only [go_sem, *]);refine ⟨by exact rfl,?_⟩;refine cU hih ⟨⟨?_,?_⟩,?_,?_⟩ ?_
        . simp -dsimp -implicitDefEqProofs only[go_sem]
        . simp -dsimp -implicitDefEqProofs only[go_sem];simp[ao,aq,ck]
        . simp -dsimp -implicitDefEqProofs only[go_sem]
        . simp -dsimp -implicitDefEqProofs only[go_sem];simp
        rintro r m' ⟨hr,hm'⟩;rw[hr,hm'];clear hr hm';cases b with
        |false=>
         rw[cy rfl];simp -dsimp -implicitDefEqProofs only[go_sem];refine ⟨by omega,_,rfl,aO ?_ ?_⟩
         . simp -dsimp -implicitDefEqProofs only[go_sem]
         simp -dsimp -implicitDefEqProofs only[go_sem];simp[ao,aq,ck]
        |true=>
         simp -dsimp -implicitDefEqProofs only[go_sem];exact ⟨by omega,⟨by omega,by omega⟩,by simp⟩
      have hcB:aT m fJ n c i u=(⟨u.af+1,c++[(i:Int)],u.s⟩,true):=(by rw[aT,if_pos hsT,if_neg (by rw[dM,hq2];exact λh=>by cases h),hu1]);rw[hcB];clear hcB cy;simp -dsimp -implicitDefEqProofs only[go_sem,htl];(refine an (cH) ?_;try simp -dsimp -implicitDefEqProofs only[go_sem, *]);exact ⟨by exact rfl,by omega,⟨by omega,by omega⟩,by simp⟩
    have hsF:bK m c i=false:=by
     rw[l8,hq];cases c with
     |nil=>simp at hkp
     |cons=>rfl
    have hcB:aT m fJ n c i u=(u,true):=(by rw[aT,if_neg (by rw[hsF];exact λh=>by cases h)]);rw[hcB];clear hcB cy;simp -dsimp -implicitDefEqProofs only[go_sem,hfn,hk0,e1,kc];refine ⟨⟨by omega,by omega⟩,⟨by omega,by omega⟩,⟨by omega,by omega⟩,?_⟩;(refine an (ql) ?_;try simp -dsimp -implicitDefEqProofs only[go_sem, *]);exact ⟨by exact rfl,⟨by omega,by omega⟩,by simp⟩
  simp -dsimp -implicitDefEqProofs only[pz,cm,fu,e8,↓reduceIte,eZ];have hlt:decide (((m.ak.toNat:Nat):Int)<m.ak)=false:=dF (by omega);simp -dsimp -implicitDefEqProofs only[go_sem,hlt];rw[dS];refine ⟨_,⟨by rw[hI],rfl⟩,aO ?_ ?_⟩
  . simp -dsimp -implicitDefEqProofs only[go_sem]
  simp -dsimp -implicitDefEqProofs only[go_sem];simp[ao,aq,ck]
theorem Xk (key:lI)(Wl:key.length<=1048576)(c:lI)(af:Nat)(ys:lA)(s:Int)(hc:c.length<=6)(hy:ys.take c.length=c.map eI)(hs:0<=s/\s<=1000000):
 fN pG 226 [(1700000010,.row af ⟨1,false⟩ true ys),(1500000003,.box 0 [aM key]),(1500000007,.box 0 [eI s])] [.ref 1700000010 af 0 c.length,.ptr 1500000003 0 0 0,.ptr 1500000007 0 0 0]
  (λr m'=>r=eB ((cq key) s c).2/\m'=[(1700000010,.row af ⟨1,false⟩ true ys),(1500000003,.box 0 [aM key]),(1500000007,.box 0 [eI ((cq key) s c).1])]):=by
 refine fN.cT 10 [.tmp 4] func226 (hv:=?_);have heq:=F7 c key (by omega);have hyl:c.length<=ys.length:=by have:=congrArg List.length hy;simp at this;omega
 by_cases hk:c=key
 . rw [decide_eq_true hk] at heq;have hr:cq key s c=(s,false):=if_pos hk;rw [hr];clear hr hk;simp -dsimp -implicitDefEqProofs only [go_sem,hy]
   repeat' first
    |(with_reducible refine ai ?_ ?_)
    |(refine aa (heq) ?_;try simp -dsimp -implicitDefEqProofs only[go_sem, *])
   all_goals first
    |exact hyl
    |(refine ⟨_,rfl,aO ?_ ?_⟩
      . simp -dsimp -implicitDefEqProofs only[go_sem]
      simp -dsimp -implicitDefEqProofs only[go_sem]
      simp)
    |skip
 rw[decide_eq_false hk] at heq;have hr:cq key s c=(s+1,true):=if_neg hk;rw[hr];clear hr hk;simp -dsimp -implicitDefEqProofs only[go_sem,hy]
 repeat' first
  |(with_reducible refine ai ?_ ?_)
  |(refine aa (heq) ?_;try simp -dsimp -implicitDefEqProofs only[go_sem, *])
 all_goals first
  |exact hyl
  |exact ⟨by omega,by omega⟩
  |(refine ⟨_,rfl,aO ?_ ?_⟩
    . simp -dsimp -implicitDefEqProofs only[go_sem]
    simp -dsimp -implicitDefEqProofs only[go_sem]
    simp)
  |skip
theorem Xl (key:lI)(Wl:key.length<=1048576)(m:aJ)(hm:aU m=true):∀(n:Nat) (c:lI) (t:KS Int),(c.length:Int)+n=m.ae->(∀x∈c,0<=x/\x<=7)->DW c t->(0<=t.s/\t.s+8^n<=1000000)→
 fN pG 262 [(1700000008,.box 0 [.ref 1700000010 t.af 0 c.length]),(1700000010,.row t.af ⟨1,false⟩ true (t.zs.map eI)),(1700000004,.box 0 [eI m.ae,eI m.ak,eI m.step,eI m.same,eI m.least]),(1700000007,.box 0 [.cn 226 [.ptr 1500000003 0 0 0,.ptr 1500000007 0 0 0]]),(1700000005,.box 0 [.val (.slice none 0 0)]),(1700000006,.box 0 [.val .nilFunc]),(1700000009,.box 0 [.cn 262 [.ptr 1700000008 0 0 0,.ptr 1700000004 0 0 0,.ptr 1700000007 0 0 0,.ptr 1700000005 0 0 0,.ptr 1700000006 0 0 0,.ptr 1700000009 0 0 0]]),(1500000003,.box 0 [aM key]),(1500000007,.box 0 [eI t.s])] [eB false,.ptr 1700000008 0 0 0,.ptr 1700000004 0 0 0,.ptr 1700000007 0 0 0,.ptr 1700000005 0 0 0,.ptr 1700000006 0 0 0,.ptr 1700000009 0 0 0]
  (λr m'=>r=eB (bn m (cq key) n c t).2/\m'=[(1700000008,.box 0 [.ref 1700000010 (bn m (cq key) n c t).1.af 0 c.length]),(1700000010,.row (bn m (cq key) n c t).1.af ⟨1,false⟩ true ((bn m (cq key) n c t).1.zs.map eI)),(1700000004,.box 0 [eI m.ae,eI m.ak,eI m.step,eI m.same,eI m.least]),(1700000007,.box 0 [.cn 226 [.ptr 1500000003 0 0 0,.ptr 1500000007 0 0 0]]),(1700000005,.box 0 [.val (.slice none 0 0)]),(1700000006,.box 0 [.val .nilFunc]),(1700000009,.box 0 [.cn 262 [.ptr 1700000008 0 0 0,.ptr 1700000004 0 0 0,.ptr 1700000007 0 0 0,.ptr 1700000005 0 0 0,.ptr 1700000006 0 0 0,.ptr 1700000009 0 0 0]]),(1500000003,.box 0 [aM key]),(1500000007,.box 0 [eI (bn m (cq key) n c t).1.s])]):=by
 intro n;have ⟨⟨zy,zz⟩,hd1,hd2⟩:=aI hm;induction n with
 |zero=>
  intro c t hl hc hz hs;have hk:((c.length:Int)==m.ae)=true:=beq_iff_eq.2 (by omega);have ht:bp c.length (uq8 eI t.zs)=uq8 eI c:=by rw[←uq9,hz.1]
  have hzl:c.length<=(uq8 eI t.zs).length:=by simpa using hz.2
  refine fN.cT 91 [.tmp 8] func262 (hv:=?_);simp -dsimp -implicitDefEqProofs only[go_sem,hk];refine aj.lB 8 mixed rfl ?_;simp -dsimp -implicitDefEqProofs only[eR,c_,uq2,uq3];have tf:=iE c (by omega);rcases hq:decide ((bg c c.length:Int)<m.least) with _|_
  . have hq':=of_decide_eq_false hq;have e6:bn m (cq key) 0 c t=(⟨t.af,t.zs,((cq key) t.s c).1⟩,((cq key) t.s c).2):=(by rw [bn,if_neg hq']);rw [e6];simp -dsimp -implicitDefEqProofs only [go_sem,ht,uq3];refine ⟨hz.2,?_⟩;(refine an (tf) ?_;try simp -dsimp -implicitDefEqProofs only [go_sem, *]);refine ⟨by exact rfl,hz.2,?_⟩;refine cU (Xk key Wl c t.af (t.zs.map eI) t.s (by omega) ht (by omega)) ⟨⟨?_,?_⟩,?_,?_⟩ ?_
    . simp -dsimp -implicitDefEqProofs only[go_sem]
    . simp -dsimp -implicitDefEqProofs only[go_sem];simp
    . simp -dsimp -implicitDefEqProofs only[go_sem]
    . simp -dsimp -implicitDefEqProofs only[go_sem];simp
    rintro r m' ⟨hr,hm'⟩;rw[hr,hm'];simp -dsimp -implicitDefEqProofs only[go_sem];refine ⟨_,rfl,aO ?_ ?_⟩
    . simp -dsimp -implicitDefEqProofs only[go_sem]
    simp -dsimp -implicitDefEqProofs only[go_sem];simp[ao,aq,ck]
  have hq':=oT hq;have e6:bn m (cq key) 0 c t=(t,true):=by rw[bn,if_pos hq']
  rw[e6];simp -dsimp -implicitDefEqProofs only[go_sem,ht,uq3];refine ⟨hz.2,?_⟩;(refine an (tf) ?_;try simp -dsimp -implicitDefEqProofs only[go_sem, *]);refine ⟨by exact rfl,_,rfl,aO ?_ ?_⟩
  . simp -dsimp -implicitDefEqProofs only[go_sem]
  simp -dsimp -implicitDefEqProofs only[go_sem];simp[ao,aq,ck]
 |succ n ih=>
  intro c t hl hc hz hs;have hk:((c.length:Int)==m.ae)=false:=beq_eq_false_iff_ne.2 (by omega);refine fN.cT 91 [.tmp 8] func262 (hv:=?_);simp -dsimp -implicitDefEqProofs only[go_sem,hk];refine aj.up [0,1,2,5,6,9,10] [47,61,69,70,72,84] [1700000008,1700000010,1500000007] m.ak.toNat (λi=>(eO (aT m (cq key) n c) t i).2=true) (λi=>[(11,eI i)]) (λi=>[(1700000008,.box 0 [.ref 1700000010 (eO (aT m (cq key) n c) t i).1.af 0 c.length]),(1700000010,.row (eO (aT m (cq key) n c) t i).1.af ⟨1,false⟩ true ((eO (aT m (cq key) n c) t i).1.zs.map eI)),(1500000007,.box 0 [eI (eO (aT m (cq key) n c) t i).1.s])]) rfl ?_ rfl (λi hi hI=>?_) (λhI=>?_)
  . simp -dsimp -implicitDefEqProofs only[go_sem];simp[eO]
  . have hu:DW c (eO (aT m (cq key) n c) t i).1:=p8 hz i;have hb:=wv hm (yN hm (f:=(cq key)) (λs k=>by unfold cq;split;exact ⟨Int.le_refl _,(by show s<=s+1;omega)⟩;exact ⟨(by show s<=s+1;omega),Int.le_refl _⟩) n) t i (c:=c);have hp:(0:Int)<8^n:=Int.pow_pos (by decide);have h8:(i:Int)*8^n<=7*8^n:=Int.mul_le_mul_of_nonneg_right (by omega) (by omega);have h9:(8:Int)^(n+1)=8*8^n:=(by rw [Int.pow_succ,Int.mul_comm]);have hlt:decide ((i:Int)<m.ak)=true:=dT (by omega);have hS:=iW hI;have cy:(aT m (cq key) n c i (eO (aT m (cq key) n c) t i).1).2=false->bn m (cq key) (n+1) c t=aT m (cq key) n c i (eO (aT m (cq key) n c) t i).1:=λh=>by
     rw[←hS] at h ⊢;rw[dS,pj h m.ak.toNat (by omega)]
    rw[hS];clear hS hI;generalize (eO (aT m (cq key) n c) t i).1=u at*;obtain ⟨hu1,hu2⟩:=hu;have htk:bp c.length (uq8 eI u.zs)=uq8 eI c:=(by rw[←uq9,hu1]);have kx:0<=u.s/\u.s+8^n<=1000000:=(by omega);have hcl:c.length<=6:=(by omega)
    have hih:=ih (c++[(i:Int)]) ⟨u.af+1,c++[(i:Int)],u.s⟩ (by simp;omega) (λx hx=>by
     rcases bk.1 hx with h|h
     . exact hc x h
     simp at h;omega) ⟨cE,bw _⟩ kx
    simp only [uq7,List.length_cons,List.length_nil,Nat.zero_add] at hih;have cH:=kE (c++[(i:Int)]) (by simp) (by simp;omega);simp only [uq7,List.length_cons,List.length_nil,Nat.zero_add,Nat.add_sub_cancel] at cH;have oB:uq8 eI c++[eI (i:Int)]=uq8 eI (c++[(i:Int)]):=(by simp);have l8:bK m c i=(c.isEmpty|| !decide (fm ((i:Int)-c.getD (c.length-1) 0)>m.step)):=by
     unfold bK;congr 1;by_cases h:fm ((i:Int)-c.getD (c.length-1) 0)<=m.step
     . rw[decide_eq_true h,decide_eq_false (by omega)];rfl
     rw[decide_eq_false h,decide_eq_true (by omega)];rfl
    have dM:gb m c i= !decide ((aZ (c++[(i:Int)]) c.length:Int)>m.same):=by
     unfold gb;by_cases h:(aZ (c++[(i:Int)]) c.length:Int)<=m.same
     . rw[decide_eq_true h,decide_eq_false (by omega)];rfl
     rw[decide_eq_false h,decide_eq_true (by omega)];rfl
    simp -dsimp -implicitDefEqProofs only[go_sem,hlt];refine aj.draw mixed rfl ?_;have hfn:rR pG 216 .neq=some false:=rfl;rcases hk0:decide ((c.length:Int)>0) with _|_
    . have hce:c=[]:=by
       have:=of_decide_eq_false hk0;exact List.eq_nil_of_length_eq_zero (by omega)
      have hsT:bK m c i=true:=(by rw[hce];rfl);clear hce;simp -dsimp -implicitDefEqProofs only[go_sem,hfn,hk0];refine ⟨by exact rfl,hu2,by omega,?_⟩;refine aj.lB 13 mixed rfl ?_;simp -dsimp -implicitDefEqProofs only[eR,c_,uq2,uq3];have htl:bp (c.length+1) (uq8 eI (c++[(i:Int)]))=uq8 eI (c++[(i:Int)]):=b7 (by simp);rcases hq2:decide ((aZ (c++[(i:Int)]) c.length:Int)>m.same) with _|_
      . have hcB:aT m (cq key) n c i u=bn m (cq key) n (c++[(i:Int)]) ⟨u.af+1,c++[(i:Int)],u.s⟩:=(by rw [aT,if_pos hsT,if_pos (by rw [dM,hq2];rfl),hu1]);rw [hcB] at cy ⊢;clear hcB;generalize bn m (cq key) n (c++[(i:Int)]) ⟨u.af+1,c++[(i:Int)],u.s⟩=w at*;obtain ⟨w,b⟩:=w;simp -dsimp -implicitDefEqProofs only [go_sem,htk,oB,htl];(refine an (cH) ?_;try simp -dsimp -implicitDefEqProofs only [go_sem, *]);refine ⟨by exact rfl,?_⟩;refine cU hih ⟨⟨?_,?_⟩,?_,?_⟩ ?_
        . simp -dsimp -implicitDefEqProofs only[go_sem]
        . simp -dsimp -implicitDefEqProofs only[go_sem];simp[ao,aq,ck]
        . simp -dsimp -implicitDefEqProofs only[go_sem]
        . simp -dsimp -implicitDefEqProofs only[go_sem];simp
        rintro r m' ⟨hr,hm'⟩;rw[hr,hm'];clear hr hm';cases b with
        |false=>
         rw[cy rfl];simp -dsimp -implicitDefEqProofs only[go_sem];refine ⟨by omega,_,rfl,aO ?_ ?_⟩
         . simp -dsimp -implicitDefEqProofs only[go_sem]
         simp -dsimp -implicitDefEqProofs only[go_sem];simp[ao,aq,ck]
        |true=>
         simp -dsimp -implicitDefEqProofs only[go_sem];exact ⟨by omega,⟨by omega,by omega⟩,by simp⟩
      have hcB:aT m (cq key) n c i u=(⟨u.af+1,c++[(i:Int)],u.s⟩,true):=(by rw[aT,if_pos hsT,if_neg (by rw[dM,hq2];exact λh=>by cases h),hu1]);rw[hcB];clear hcB cy;simp -dsimp -implicitDefEqProofs only[go_sem,htk,oB,htl];(refine an (cH) ?_;try simp -dsimp -implicitDefEqProofs only[go_sem, *]);exact ⟨by exact rfl,by omega,⟨by omega,by omega⟩,by simp⟩
    have hkp:=oT hk0;have hla:c.getD (c.length-1) 0=c[c.length-1]:=(by simp[uq4,show c.length-1<c.length by omega]);have kc:(uq8 eI u.zs)[c.length-1]? =some (eI (c.getD (c.length-1) 0)):=by have h1:(bp c.length (uq8 eI u.zs))[c.length-1]? =(uq8 eI u.zs)[c.length-1]? :=(by rw[List.getElem?_take];simp;omega);rw[←h1,htk,hla];simp[show c.length-1<c.length by omega]
    have hlb:=hc _ (uq6 (show c.length-1<c.length by omega));rw[←hla] at hlb;generalize c.getD (c.length-1) 0=z at*;clear hla;have e1:((c.length:Int)-1).toNat=c.length-1:=(by omega);have ql:=jr ((i:Int)-z) (by omega);rcases hq:decide (fm ((i:Int)-z)>m.step) with _|_
    . have hsT:bK m c i=true:=(by rw [l8,hq];simp);simp -dsimp -implicitDefEqProofs only [go_sem,hfn,hk0,e1,kc];refine ⟨⟨by omega,by omega⟩,⟨by omega,by omega⟩,⟨by omega,by omega⟩,?_⟩;(refine an (ql) ?_;try simp -dsimp -implicitDefEqProofs only [go_sem, *]);refine ⟨by exact rfl,by omega,?_⟩;refine aj.lB 13 mixed rfl ?_;simp -dsimp -implicitDefEqProofs only [eR,c_,uq2,uq3];have htl:bp (c.length+1) (uq8 eI (c++[(i:Int)]))=uq8 eI (c++[(i:Int)]):=b7 (by simp);rcases hq2:decide ((aZ (c++[(i:Int)]) c.length:Int)>m.same) with _|_
      . have hcB:aT m (cq key) n c i u=bn m (cq key) n (c++[(i:Int)]) ⟨u.af+1,c++[(i:Int)],u.s⟩:=(by rw [aT,if_pos hsT,if_pos (by rw [dM,hq2];rfl),hu1]);rw [hcB] at cy ⊢;clear hcB;generalize bn m (cq key) n (c++[(i:Int)]) ⟨u.af+1,c++[(i:Int)],u.s⟩=w at*;obtain ⟨w,b⟩:=w;simp -dsimp -implicitDefEqProofs only [go_sem,htl];(refine an (cH) ?_;try simp -dsimp -implicitDefEqProofs only [go_sem, *]);refine ⟨by exact rfl,?_⟩;refine cU hih ⟨⟨?_,?_⟩,?_,?_⟩ ?_
        . simp -dsimp -implicitDefEqProofs only[go_sem]
        . simp -dsimp -implicitDefEqProofs only[go_sem];simp[ao,aq,ck]
        . simp -dsimp -implicitDefEqProofs only[go_sem]
        . simp -dsimp -implicitDefEqProofs only[go_sem];simp
        rintro r m' ⟨hr,hm'⟩;rw[hr,hm'];clear hr hm';cases b with
        |false=>
         rw[cy rfl];simp -dsimp -implicitDefEqProofs only[go_sem];refine ⟨by omega,_,rfl,aO ?_ ?_⟩
         . simp -dsimp -implicitDefEqProofs only[go_sem]
         simp -dsimp -implicitDefEqProofs only[go_sem];simp[ao,aq,ck]
        |true=>
         simp -dsimp -implicitDefEqProofs only[go_sem];exact ⟨by omega,⟨by omega,by omega⟩,by simp⟩
      have hcB:aT m (cq key) n c i u=(⟨u.af+1,c++[(i:Int)],u.s⟩,true):=(by rw[aT,if_pos hsT,if_neg (by rw[dM,hq2];exact λh=>by cases h),hu1]);rw[hcB];clear hcB cy;simp -dsimp -implicitDefEqProofs only[go_sem,htl];(refine an (cH) ?_;try simp -dsimp -implicitDefEqProofs only[go_sem, *]);exact ⟨by exact rfl,by omega,⟨by omega,by omega⟩,by simp⟩
    have hsF:bK m c i=false:=by
     rw[l8,hq];cases c with
     |nil=>simp at hkp
     |cons=>rfl
    have hcB:aT m (cq key) n c i u=(u,true):=(by rw[aT,if_neg (by rw[hsF];exact λh=>by cases h)]);rw[hcB];clear hcB cy;simp -dsimp -implicitDefEqProofs only[go_sem,hfn,hk0,e1,kc];refine ⟨⟨by omega,by omega⟩,⟨by omega,by omega⟩,⟨by omega,by omega⟩,?_⟩;(refine an (ql) ?_;try simp -dsimp -implicitDefEqProofs only[go_sem, *]);exact ⟨by exact rfl,⟨by omega,by omega⟩,by simp⟩
  simp -dsimp -implicitDefEqProofs only[pz,cm,fu,e8,↓reduceIte,eZ];have hlt:decide (((m.ak.toNat:Nat):Int)<m.ak)=false:=dF (by omega);simp -dsimp -implicitDefEqProofs only[go_sem,hlt];rw[dS];refine ⟨_,⟨by rw[hI],rfl⟩,aO ?_ ?_⟩
  . simp -dsimp -implicitDefEqProofs only[go_sem]
  simp -dsimp -implicitDefEqProofs only[go_sem];simp[ao,aq,ck]
theorem yS (m:aJ)(hm:aU m=true):∀(n:Nat) (c:lI),(c.length:Int)+n=m.ae->(∀x∈c,0<=x/\x<=7)->Fn pG 143 [kj m,aM c] true (· =eI (lR m n c)):=by
 intro n;have ⟨⟨zy,zz⟩,hd1,hd2⟩:=aI hm;induction n with
 |zero=>
  intro c hl hc;refine Fn.au 37 [.tmp 4] func143 (hv:=?_);have hbe:=lT m c hm (by omega) hc;have hk:((c.length:Int)==m.ae)=true:=beq_iff_eq.2 (by omega);rcases hb:eP m c with _|_
  . have jv:lR m 0 c=0:=(by rw[lR,if_neg (by rw[hb];exact λh=>by cases h)]);rw[hb] at hbe;rw[jv];simp -dsimp -implicitDefEqProofs only[go_sem];(refine aa (hbe) ?_;try simp -dsimp -implicitDefEqProofs only[go_sem, *])
  have jv:=P5 m c hb;rw[hb] at hbe;rw[jv];have hki:=re c (by omega);rcases hq:decide ((bg c c.length:Int)<m.least) with _|_
  . rw[if_neg (of_decide_eq_false hq)];clear jv hb;simp -dsimp -implicitDefEqProofs only[go_sem];(refine aa (hbe) ?_;try simp -dsimp -implicitDefEqProofs only[go_sem, *]);refine aj.draw mixed rfl ?_;simp -dsimp -implicitDefEqProofs only[go_sem];(refine an (hki) ?_;try simp -dsimp -implicitDefEqProofs only[go_sem, *]);(exact ⟨by exact rfl,rfl⟩)
  rw[if_pos (oT hq)];clear jv hb;simp -dsimp -implicitDefEqProofs only[go_sem];(refine aa (hbe) ?_;try simp -dsimp -implicitDefEqProofs only[go_sem, *]);refine aj.draw mixed rfl ?_;simp -dsimp -implicitDefEqProofs only[go_sem];(refine an (hki) ?_;try simp -dsimp -implicitDefEqProofs only[go_sem, *]);exact rfl
 |succ n ih=>
  intro c hl hc;refine Fn.au 37 [.tmp 4] func143 (hv:=?_);have hbe:=lT m c hm (by omega) hc;have hk:((c.length:Int)==m.ae)=false:=beq_eq_false_iff_ne.2 (by omega);rcases hb:eP m c with _|_
  . have jv:lR m (n+1) c=0:=(by rw[lR,if_neg (by rw[hb];exact λh=>by cases h)]);rw[hb] at hbe;rw[jv];simp -dsimp -implicitDefEqProofs only[go_sem];(refine aa (hbe) ?_;try simp -dsimp -implicitDefEqProofs only[go_sem, *])
  have jv:=P6 m n c hb;rw[hb] at hbe;rw[jv];clear jv hb;have bc:=sS c (by omega);simp -dsimp -implicitDefEqProofs only[go_sem];(refine aa (hbe) ?_;try simp -dsimp -implicitDefEqProofs only[go_sem, *]);refine aj.up [1,2] [30,32,33,34] [] m.ak.toNat (λ_=>True) (λi=>[(6,eI i),(5,eI (jV m n c i))]) (λ_=>[]) trivial ?_ rfl (λi hi _=>?_) (λ_=>?_)
  . simp -dsimp -implicitDefEqProofs only[go_sem];try simp[jV]
  . have hih:=ih (c++[(i:Int)]) (by simp;omega) (λx hx=>by
     rcases bk.1 hx with h|h
     . exact hc x h
     simp at h;omega)
    have hlt:decide ((i:Int)<m.ak)=true:=dT (by omega);have oB:uq8 eI c++[eI (i:Int)]=uq8 eI (c++[(i:Int)]):=(by simp);have htk:bp c.length (uq8 eI c)=uq8 eI c:=b7 (by simp);have htl:bp (c.length+1) (uq8 eI (c++[(i:Int)]))=uq8 eI (c++[(i:Int)]):=b7 (by simp);have hb1:=yQ m hm n c i;have hb2:=Dh m hm n (c++[(i:Int)]);have hp:8^n<=8^6:=di (by decide) (by omega);have h8:i*8^n<=7*8^n:=Nat.mul_le_mul_right _ (by omega);rw[nL];clear ih;generalize 8^n=p at*;generalize jV m n c i=A at*;generalize lR m n (c++[(i:Int)])=Bn at*;simp -dsimp -implicitDefEqProofs only[go_sem,hlt];refine aj.draw mixed rfl ?_;simp -dsimp -implicitDefEqProofs only[go_sem];(refine an (bc) ?_;try simp -dsimp -implicitDefEqProofs only[go_sem, *]);refine ⟨by omega,?_⟩;(refine an (hih) ?_;try simp -dsimp -implicitDefEqProofs only[go_sem, *]);exact ⟨⟨by omega,by omega⟩,by exact rfl,⟨by omega,by omega⟩,by simp,by simp⟩
  have hlt:decide (((m.ak.toNat:Nat):Int)<m.ak)=false:=dF (by omega);simp -dsimp -implicitDefEqProofs only[go_sem,hlt]
theorem vG (m:aJ)(key:lI)(h:key.length<=1048576):Fn pG 174 [kj m,aQ [key]] true (· =eI (if aU m=true then if fault m key=0 then 0 else 2 else 1)):=by
 refine Fn.au 21 [.tmp 4] func174 (hv:=?_);have hm0:=eV m;rcases hm:aU m with _|_
 . rw [hm] at hm0;clear hm;simp -dsimp -implicitDefEqProofs only [go_sem];repeat' (refine aa (hm0) ?_;try simp -dsimp -implicitDefEqProofs only [go_sem, *])
   all_goals simp
 have hk:Fn pG 76 [kj m,aM key] true (· =eB (fault m key==0)):=by refine Fn.au 9 [.tmp 4] func76 (hv:=?_);have hf:=yI m key hm h;simp -dsimp -implicitDefEqProofs only[go_sem];repeat' (refine aa (hf) ?_;try simp -dsimp -implicitDefEqProofs only[go_sem, *])
 rw[hm] at hm0;clear hm;have h01:decide ((0:Int)<((1:Nat):Int))=true:=rfl;have h11:decide (((1:Nat):Int)<((1:Nat):Int))=false:=rfl;rcases hq:(fault m key==0) with _|_
 all_goals
  have hF:=hq;simp only[beq_iff_eq,beq_eq_false_iff_ne] at hF;rw[hq] at hk;simp only[hF,if_true,if_false];clear hq hF;simp -dsimp -implicitDefEqProofs only[go_sem];repeat' (refine aa (hm0) ?_;try simp -dsimp -implicitDefEqProofs only[go_sem, *])
 . refine aj.up [2,10,11] [18] [] 1 (λi=>i=0) (λi=>[(12,eI i)]) (λ_=>[]) rfl ?_ rfl (λi hi hI=> ?_) (λhI=> ?_)
   . simp -dsimp -implicitDefEqProofs only[go_sem]
   . subst hI;simp -dsimp -implicitDefEqProofs only [go_sem,h01]
     repeat' first
      |(with_reducible refine ai ?_ ?_)
      |(refine aa (hk) ?_;try simp -dsimp -implicitDefEqProofs only[go_sem, *])
     all_goals first
      |omega
      |skip
   cases hI
 refine aj.up [2,10,11] [18] [] 1 (λi=>True) (λi=>[(12,eI i)]) (λ_=>[]) trivial ?_ rfl (λi hi hI=>?_) (λhI=>?_)
 . simp -dsimp -implicitDefEqProofs only[go_sem]
 . obtain rfl:i=0:=by omega
   simp -dsimp -implicitDefEqProofs only[go_sem,h01]
   repeat' first
    |(with_reducible refine ai ?_ ?_)
    |(refine aa (hk) ?_;try simp -dsimp -implicitDefEqProofs only[go_sem, *])
   all_goals first
    |omega
    |exact ⟨by omega,by omega⟩
    |rfl
    |skip
 simp -dsimp -implicitDefEqProofs only[go_sem,h11]
theorem MG (m:aJ)(key:lI)(hm:aU m=true)(hf:fault m key=0):Fn pG 153 [kj m,aM key] true (· =eI (cG m key key.length)):=by
 refine Fn.au 34 [.tmp 4] func153 (hv:= ?_);obtain ⟨hl,hel,_,_⟩:=p9 hf;have ⟨⟨zy,zz⟩,hd1,hd2⟩:=aI hm;have hrb:∀i,i<=key.length->cG m key i<=i*8^6:=by
  intro i hi;induction i with
  |zero=>simp[cG]
  |succ i ih=>
   have h1:=ih (by omega);have hx:=hel (key.getD i 0) (by rw[uq4,uq5 (by omega)];exact uq6 _);have h2:=yQ m hm (key.length-(i+1)) (key.take i) (key.getD i 0).toNat;have h3:(key.getD i 0).toNat*8^(key.length-(i+1))<=8*8^5:=Nat.mul_le_mul (by omega) (di (by decide) (by omega));rw[cG,Nat.succ_mul];omega
 simp -dsimp -implicitDefEqProofs only[go_sem];refine aj.up [1,2] [10,27,29,30,31] [] key.length (λ_=>True) (λi=>[(6,eI i),(5,eI (cG m key i))]) (λ_=>[]) trivial ?_ rfl (λi hi _=>?_) (λ_=>?_)
 . simp -dsimp -implicitDefEqProofs only[go_sem];try simp[cG]
 . have gi:=get_some hi;have li:=aE hi;have hx:=hel key[i] (uq6 hi);have hr1:=hrb i (by omega);have hgd:key.getD i 0=key[i]:=(by simp [uq4,hi]);have lx:cG m key (i+1)=cG m key i+jV m (key.length-(i+1)) (key.take i) key[i].toNat:=(by rw [cG,hgd]);rw [lx];clear lx hgd hrb;have hcl:∀d,jV m (key.length-(i+1)) (key.take i) d<=d*8^5:=λd=>Nat.le_trans (yQ m hm _ _ d) (Nat.mul_le_mul_left _ (di (by decide) (by omega)));generalize cG m key i=R at*;simp -dsimp -implicitDefEqProofs only [go_sem,li];refine aj.up [1,2,6] [27,29,30,31] [] key[i].toNat (λ_=>True) (λd=>[(7,eI d),(5,eI ((R:Int)+jV m (key.length-(i+1)) (key.take i) d))]) (λ_=>[]) trivial ?_ rfl (λd hd _=> ?_) (λ_=> ?_)
   . simp -dsimp -implicitDefEqProofs only[go_sem];try simp[jV]
   . have hlt:decide ((d:Int)<key[i])=true:=dT (by omega)
     have jv:=yS m hm (key.length-(i+1)) (key.take i++[(d:Int)]) (by simp;omega) (λx hx2=>by
      rcases bk.1 hx2 with h|h
      . have:=hel x (List.mem_of_mem_take h);omega
      simp at h;omega)
     have bc:=sS (key.take i) (by simp;omega);have htk:bp i (uq8 eI key)=uq8 eI (key.take i):=uq9.symm;have oB:uq8 eI (key.take i)++[eI (d:Int)]=uq8 eI (key.take i++[(d:Int)]):=(by simp);have hlen:(key.take i).length=i:=(by simp;omega);have hb1:=hcl d;have hb2:=Dh m hm (key.length-(i+1)) (key.take i++[(d:Int)]);have hp:8^(key.length-(i+1))<=8^5:=di (by decide) (by omega);have htl:bp (i+1) (uq8 eI (key.take i++[(d:Int)]))=uq8 eI (key.take i++[(d:Int)]):=b7 (by simp;omega);have Y7:bp i (uq8 eI (key.take i))=uq8 eI (key.take i):=b7 (by simp;omega);rw[nL];clear hcl hel;generalize hT:key.take i=T at*;generalize jV m (key.length-(i+1)) T d=A at*;generalize lR m (key.length-(i+1)) (T++[(d:Int)])=Bn at*;generalize 8^(key.length-(i+1))=p at*;simp -dsimp -implicitDefEqProofs only[go_sem,hlt,gi];refine ⟨by omega,?_⟩;refine aj.draw mixed rfl ?_;simp -dsimp -implicitDefEqProofs only[go_sem,htk];refine ⟨by omega,?_⟩;(refine an (bc) ?_;try simp -dsimp -implicitDefEqProofs only[go_sem, *]);refine ⟨by omega,?_⟩;(refine an (jv) ?_;try simp -dsimp -implicitDefEqProofs only[go_sem, *]);exact ⟨⟨by omega,by omega⟩,by exact rfl,⟨by omega,by omega⟩,by simp,by simp;omega⟩
   have hlt:decide (((key[i].toNat:Nat):Int)<key[i])=false:=dF (by omega);simp -dsimp -implicitDefEqProofs only[go_sem,hlt,gi];exact ⟨by omega,⟨by omega,by omega⟩,by simp,by simp⟩
 simp -dsimp -implicitDefEqProofs only[go_sem,aA]
theorem vH (m:aJ)(hm:aU m=true):Fn pG 176 [kj m,.val .nilFunc] true (· =eI (lR m m.ae.toNat [])):=by
 refine Fn.au 11 [.tmp 4] func176 (hv:= ?_);have tg:=aI hm;have h8:(8:Int)^m.ae.toNat<=8^6:=by
  have:8^m.ae.toNat<=8^6:=di (by decide) (by omega)
  exact_mod_cast this
 have e6:=Xj m hm m.ae.toNat [] ⟨0,[],0⟩ (by simp;omega) (λx hx=>by cases hx) ⟨rfl,bw _⟩ ⟨Int.le_refl _,by show (0:Int)+_<=_;omega⟩;have hsp:=(iG m fJ m.ae.toNat [] ⟨0,[],0⟩ ⟨rfl,bw _⟩).2.1;rw[B5] at hsp;have hc:lR m m.ae.toNat []=(a6 m m.ae.toNat []).length:=by rw[lR,if_pos (show eP m []=true from rfl)]
 rw[hc];simp only[Int.zero_add] at hsp;rw[←hsp];generalize bn m fJ m.ae.toNat [] ⟨0,[],0⟩=w at*;simp -dsimp -implicitDefEqProofs only[go_sem];refine bJ 900000 16 [] func222 rfl rfl rfl rfl rfl (by exact oT rfl) ?_;simp -dsimp -implicitDefEqProofs only[go_sem];simp only[List.length_nil,List.map_nil] at e6;refine jl 1700000000 e6 ⟨?_,?_⟩ ⟨⟨?_,?_⟩,?_,?_⟩ ?_
 . simp -dsimp -implicitDefEqProofs only[go_sem]
 . simp -dsimp -implicitDefEqProofs only[go_sem]
 . simp -dsimp -implicitDefEqProofs only[go_sem]
 . simp -dsimp -implicitDefEqProofs only[go_sem];simp[ao,aq,ck]
 . simp -dsimp -implicitDefEqProofs only[go_sem]
 . simp -dsimp -implicitDefEqProofs only[go_sem];simp
 rintro r m' ⟨hr,hm'⟩;rw[hr,hm'];simp -dsimp -implicitDefEqProofs only[go_sem]
theorem P_ (m:aJ)(key:lI)(h:key.length<=1048576):Fn pG 175 [kj m,aM key] true (· =if aU m=true then if fault m key=0 then .aX [eI (cG m key key.length),eI 0] else .aX [eI 0,eI 2] else .aX [eI 0,eI 1]):=by
 refine Fn.au 19 [.tmp 4,.tmp 5] func175 (hv:=?_);have fw:=vG m key h;have h10:((1:Int) != 0)=true:=rfl;have h20:((2:Int) != 0)=true:=rfl;rcases hm:aU m with _|_
 . rw[hm] at fw;simp only[Bool.false_eq_true,if_false] at fw ⊢;clear hm;simp -dsimp -implicitDefEqProofs only[go_sem];repeat' (refine aa (fw) ?_;try simp -dsimp -implicitDefEqProofs only[go_sem, *])
 rw[hm] at fw;simp only[if_true] at fw ⊢;by_cases hf:fault m key=0
 . rw [if_pos hf] at fw ⊢;have tg:=aI hm;have h8:(8:Int)^m.ae.toNat<=8^6:=by
    have:8^m.ae.toNat<=8^6:=di (by decide) (by omega)
    exact_mod_cast this
   have e6:=Xl key h m hm m.ae.toNat [] ⟨0,[],0⟩ (by simp;omega) (λx hx=>by cases hx) ⟨rfl,bw _⟩ ⟨Int.le_refl _,by show (0:Int)+_<=_;omega⟩;have hsp:=(iG m (cq key) m.ae.toNat [] ⟨0,[],0⟩ ⟨rfl,bw _⟩).2.1;have XV:=hsp.trans (Di hf).1;rw[←XV];clear hsp XV;generalize bn m (cq key) m.ae.toNat [] ⟨0,[],0⟩=w at*;simp only[List.length_nil,List.map_nil] at e6;clear hm hf h8 tg;simp -dsimp -implicitDefEqProofs only[go_sem];repeat' (refine aa (fw) ?_;try simp -dsimp -implicitDefEqProofs only[go_sem, *])
   refine bJ 900000 16 [] func222 rfl rfl rfl rfl rfl (by exact oT rfl) ?_;simp -dsimp -implicitDefEqProofs only[go_sem];refine jl 1700000000 e6 ⟨?_,?_⟩ ⟨⟨?_,?_⟩,?_,?_⟩ ?_
   . simp -dsimp -implicitDefEqProofs only[go_sem]
   . simp -dsimp -implicitDefEqProofs only[go_sem]
   . simp -dsimp -implicitDefEqProofs only[go_sem]
   . simp -dsimp -implicitDefEqProofs only[go_sem];simp[ao,aq,ck]
   . simp -dsimp -implicitDefEqProofs only[go_sem]
   . simp -dsimp -implicitDefEqProofs only[go_sem];simp
   rintro r m' ⟨hr,hm'⟩;rw[hr,hm'];simp -dsimp -implicitDefEqProofs only[go_sem]
 rw[if_neg hf] at fw ⊢;clear hm hf;simp -dsimp -implicitDefEqProofs only[go_sem];repeat' (refine aa (fw) ?_;try simp -dsimp -implicitDefEqProofs only[go_sem, *])
def cL (f:Nat->Option lI):Nat->Option lI
 |0=>none
 |d+1=>match cL f d with
  |some k=>some k
  |none=>f d
def b6 (m:aJ):Nat->lI->Option lI
 |0,c=>if eP m c=true/\m.least<=(bg c c.length:Int) then some c else none
 |n+1,c=>if eP m c=true then cL (λ(d:Nat)=>b6 m n (c++[(d:Int)])) m.ak.toNat else none
theorem rq {f:Nat->Option lI}{k:lI}:∀{D:Nat},cL f D=some k->∃d,d<D/\f d=some k
 |D+1,h=>by
  simp only[cL] at h;cases hh:cL f D with
  |some k'=>
   rw[hh] at h;obtain ⟨d,h1,h2⟩:=rq hh;exact ⟨d,by omega,h2.trans h⟩
  |none=>rw[hh] at h;exact ⟨D,by omega,h⟩
theorem vI {f:Nat->Option lI}{D:Nat}(h:cL f D=none):cL f (D+1)=f D:=by simp[cL,h]
theorem pq {f:Nat->Option lI}{D:Nat}{k:lI}(h:cL f D=some k):∀E,D<=E->cL f E=some k
 |0,hE=>by rw[show D=0 by omega] at h;cases h
 |E+1,hE=>by
  by_cases e:D=E+1
  . rw[←e];exact h
  simp only[cL];rw[pq h E (by omega)]
def MH (o:Option lI):AV:=match o with
 |some k=>.aX [aM k,eB true]
 |none=>.aX [.val (.slice none 0 0),eB false]
def ru (m:aJ)(n:Nat)(c:lI)(r:AV):Prop:=match b6 m n c with
 |some k=>r= .aX [aM k,eB true]
 |none=>∃x,r= .aX [x,eB false]/\(x= .val (.slice none 0 0)\/x=aM c)
theorem ry (m:aJ)(hm:aU m=true):∀(n:Nat) (c:lI),(c.length:Int)+n=m.ae->(∀x∈c,0<=x/\x<=7)->Fn pG 87 [kj m,aM c] false (ru m n c):=by
 intro n;have ⟨⟨zy,zz⟩,hd1,hd2⟩:=aI hm;induction n with
 |zero=>
  intro c hl hc;refine Fn.bP 42 [.tmp 4,.tmp 5] func87 (hv:=?_);have hbe:=lT m c hm (by omega) hc;have hk:((c.length:Int)==m.ae)=true:=beq_iff_eq.2 (by omega);have hki:=re c (by omega);unfold ru;rcases hb:eP m c with _|_
  . have jv:b6 m 0 c=none:=(by rw[b6,if_neg (by rw[hb];exact λh=>by cases h.1)]);rw[hb] at hbe;rw[jv];clear jv hb;simp -dsimp -implicitDefEqProofs only[go_sem];(refine aa (hbe) ?_;try simp -dsimp -implicitDefEqProofs only[go_sem, *]);exact ⟨_,rfl,.inl rfl⟩
  rw[hb] at hbe;rcases hq:decide ((bg c c.length:Int)≥m.least) with _|_
  . have jv:b6 m 0 c=none:=(by rw[b6,if_neg (λh=>by have:=of_decide_eq_false hq;omega)]);rw[jv];clear jv hb;simp -dsimp -implicitDefEqProofs only[go_sem];(refine aa (hbe) ?_;try simp -dsimp -implicitDefEqProofs only[go_sem, *]);refine aj.draw mixed rfl ?_;simp -dsimp -implicitDefEqProofs only[go_sem];(refine an (hki) ?_;try simp -dsimp -implicitDefEqProofs only[go_sem, *]);exact ⟨by exact rfl,_,rfl,.inr rfl⟩
  have jv:b6 m 0 c=some c:=by rw[b6,if_pos ⟨hb,by have:=oT hq;omega⟩]
  rw[jv];clear jv hb;simp -dsimp -implicitDefEqProofs only[go_sem];(refine aa (hbe) ?_;try simp -dsimp -implicitDefEqProofs only[go_sem, *]);refine aj.draw mixed rfl ?_;simp -dsimp -implicitDefEqProofs only[go_sem];(refine an (hki) ?_;try simp -dsimp -implicitDefEqProofs only[go_sem, *]);exact rfl
 |succ n ih=>
  intro c hl hc;refine Fn.bP 42 [.tmp 4,.tmp 5] func87 (hv:=?_);have hbe:=lT m c hm (by omega) hc;have hk:((c.length:Int)==m.ae)=false:=beq_eq_false_iff_ne.2 (by omega);unfold ru;rcases hb:eP m c with _|_
  . have jv:b6 m (n+1) c=none:=(by rw[b6,if_neg (by rw[hb];exact λh=>by cases h)]);rw[hb] at hbe;rw[jv];clear jv hb;simp -dsimp -implicitDefEqProofs only[go_sem];(refine aa (hbe) ?_;try simp -dsimp -implicitDefEqProofs only[go_sem, *]);exact ⟨_,rfl,.inl rfl⟩
  have jv:b6 m (n+1) c=cL (λ(d:Nat)=>b6 m n (c++[(d:Int)])) m.ak.toNat:=by rw[b6,if_pos hb]
  rw[hb] at hbe;rw[jv];clear jv hb;have bc:=sS c (by omega);simp -dsimp -implicitDefEqProofs only[go_sem];(refine aa (hbe) ?_;try simp -dsimp -implicitDefEqProofs only[go_sem, *]);refine aj.up [1,2] [33,35,36,37] [] m.ak.toNat (λi=>cL (λ(d:Nat)=>b6 m n (c++[(d:Int)])) i=none) (λi=>[(6,eI i)]) (λ_=>[]) rfl ?_ rfl (λi hi hI=>?_) (λhI=>?_)
  . simp -dsimp -implicitDefEqProofs only[go_sem]
  . have hih:=ih (c++[(i:Int)]) (by simp;omega) (λx hx=>by
     rcases bk.1 hx with h|h
     . exact hc x h
     simp at h;omega)
    have hlt:decide ((i:Int)<m.ak)=true:=dT (by omega);have oB:uq8 eI c++[eI (i:Int)]=uq8 eI (c++[(i:Int)]):=(by simp);have htk:bp c.length (uq8 eI c)=uq8 eI c:=b7 (by simp);have htl:bp (c.length+1) (uq8 eI (c++[(i:Int)]))=uq8 eI (c++[(i:Int)]):=b7 (by simp);have hnx:=vI hI;have fW:∀k,b6 m n (c++[(i:Int)])=some k->cL (λ(d:Nat)=>b6 m n (c++[(d:Int)])) m.ak.toNat=some k:=λk hk=>pq (hnx.trans hk) _ (by omega);rw[hnx];clear ih hI hnx;unfold ru at hih;generalize b6 m n (c++[(i:Int)])=F at*;simp -dsimp -implicitDefEqProofs only[go_sem,hlt];refine aj.Zh 6 mixed rfl ?_;simp -dsimp -implicitDefEqProofs only[eR,c_,uq2,uq3];simp -dsimp -implicitDefEqProofs only[go_sem];(refine an (bc) ?_;try simp -dsimp -implicitDefEqProofs only[go_sem, *]);refine ⟨by omega,?_⟩;refine ⟨by exact rfl,?_⟩;refine jn 34000 1 ⟨1,false⟩ true (uq8 eI (c++[(i:Int)])) hih (by decide) ?_ ?_ λr hr=>?_
    . simp -dsimp -implicitDefEqProofs only[go_sem]
    . refine pa ?_ rfl ?_
      . simp -dsimp -implicitDefEqProofs only[go_sem]
      have h:=kD (l:=34000) (v:=1) (sh:=⟨1,false⟩) (ys:=uq8 eI (c++[(i:Int)])) (xs:=[]) (r:=[]) 0 (c.length+1) (by simp) trivial;rw[uq3,htl] at h;exact h
    cases F with
    |some k=>
     rw[fW k rfl];rw[show r= .aX [aM k,eB true] from hr];clear hr fW;simp -dsimp -implicitDefEqProofs only[go_sem];exact rfl
    |none=>
     clear fW;obtain ⟨x,rfl,hx⟩:=hr;rcases hx with rfl|rfl
     . simp -dsimp -implicitDefEqProofs only[go_sem];exact ⟨by exact rfl,⟨by omega,by omega⟩,by simp⟩
     simp -dsimp -implicitDefEqProofs only[go_sem];exact ⟨by exact rfl,⟨by omega,by omega⟩,by simp⟩
  have hlt:decide (((m.ak.toNat:Nat):Int)<m.ak)=false:=dF (by omega);rw[hI];clear hI;simp -dsimp -implicitDefEqProofs only[go_sem,hlt];exact ⟨_,rfl,.inl rfl⟩
def dv (m:aJ)(c:lI):Nat->Option lI
 |0=>none
 |j+1=>match dv m c j with
  |some k=>some k
  |none=>cL (λ(e:Nat)=>b6 m j (c.take (c.length-1-j)++[c.getD (c.length-1-j) 0+1+(e:Int)])) (m.ak-(c.getD (c.length-1-j) 0+1)).toNat
theorem vJ {m:aJ}{c:lI}{j:Nat}(h:dv m c j=none):dv m c (j+1)=cL (λ(e:Nat)=>b6 m j (c.take (c.length-1-j)++[c.getD (c.length-1-j) 0+1+(e:Int)])) (m.ak-(c.getD (c.length-1-j) 0+1)).toNat:=by simp[dv,h]
theorem pr {m:aJ}{c k:lI}{j:Nat}(h:dv m c j=some k):∀E,j<=E->dv m c E=some k
 |0,hE=>by rw[show j=0 by omega] at h;cases h
 |E+1,hE=>by
  by_cases e:j=E+1
  . rw[←e];exact h
  simp only[dv];rw[pr h E (by omega)]
theorem qa (m:aJ)(c:lI)(hm:aU m=true)(hl:(c.length:Int)=m.ae)(hc:∀x∈c,0<=x/\x<m.ak):Fn pG 86 [kj m,aM c] false (· =MH (dv m c c.length)):=by
 have ⟨⟨zy,zz⟩,hd1,hd2⟩:=aI hm;refine Fn.bP 42 [.tmp 4,.tmp 5] func86 (hv:=?_);simp -dsimp -implicitDefEqProofs only[go_sem];refine ⟨⟨by omega,by omega⟩,?_⟩;refine aj.up [1,2] [33,35,36,37] [] c.length (λj=>dv m c j=none) (λj=>[(6,eI ((c.length:Int)-1-(j:Int)))]) (λ_=>[]) rfl ?_ rfl (λj hj hJ=>?_) (λhJ=>?_)
 . simp -dsimp -implicitDefEqProofs only[go_sem];all_goals first|(simp;done)|skip
 . have hlt:decide ((c.length:Int)-1-(j:Int)≥0)=true:=dT (by omega);have hnx:=vJ hJ;have fW:∀k,dv m c (j+1)=some k->dv m c c.length=some k:=λk hk=>pr hk _ (by omega);have hi:c.length-1-j<c.length:=(by omega);have Rb:(c.length:Int)-1-(j:Int)=((c.length-1-j:Nat):Int):=(by omega);have hx:=hc c[c.length-1-j] (uq6 hi);have hgd:c.getD (c.length-1-j) 0=c[c.length-1-j]:=(by simp [uq4,hi]);have gi:=get_some hi;have XW:(c.length:Int)-1-((j+1:Nat):Int)=((c.length-1-j:Nat):Int)-1:=(by omega);rw [hgd] at hnx;rw [Rb] at hlt;rw [Rb,XW];clear hJ Rb hgd XW;generalize hI:c.length-1-j=i at*;generalize c[i]=z at*;rw [hnx];have Uv:∀k,cL (λ(e:Nat)=>b6 m j (c.take i++[z+1+(e:Int)])) (m.ak-(z+1)).toNat=some k->dv m c c.length=some k:=λk hk=>fW k (hnx.trans hk);clear hnx fW;simp -dsimp -implicitDefEqProofs only [go_sem,hlt,gi];refine ⟨by omega,⟨by omega,by omega⟩,?_⟩;refine aj.up [1,2,6] [33,35,36,37] [] (m.ak-(z+1)).toNat (λe=>cL (λ(e:Nat)=>b6 m j (c.take i++[z+1+(e:Int)])) e=none) (λe=>[(7,eI (z+1+(e:Int)))]) (λ_=>[]) rfl ?_ rfl (λe he hE=> ?_) (λhE=> ?_)
   . simp -dsimp -implicitDefEqProofs only[go_sem];all_goals first|(simp;done)|skip
   . have Rc:decide (z+1+(e:Int)<m.ak)=true:=dT (by omega);have Zn:(c.take i).length=i:=(by simp;omega)
     have hih:=ry m hm j (c.take i++[z+1+(e:Int)]) (by simp;omega) (λx hx2=>by
      rcases bk.1 hx2 with h|h
      . have:=hc x (List.mem_of_mem_take h);omega
      simp at h;omega)
     have bc:=sS (c.take i) (by omega);have htk:bp i (uq8 eI c)=uq8 eI (c.take i):=uq9.symm;have hnx:=vI hE;have Re:∀k,b6 m j (c.take i++[z+1+(e:Int)])=some k->dv m c c.length=some k:=λk hk=>Uv k (pq (hnx.trans hk) _ (by omega));rw[hnx];clear hE hnx Uv hc;unfold ru at hih;generalize c.take i=T at*;have oB:uq8 eI T++[eI (z+1+(e:Int))]=uq8 eI (T++[z+1+(e:Int)]):=(by simp);have htl:bp (i+1) (uq8 eI (T++[z+1+(e:Int)]))=uq8 eI (T++[z+1+(e:Int)]):=b7 (by simp;omega);have Y7:bp i (uq8 eI T)=uq8 eI T:=b7 (by simp;omega);generalize b6 m j (T++[z+1+(e:Int)])=F at*;simp -dsimp -implicitDefEqProofs only[go_sem,Rc];refine aj.Zh 8 mixed rfl ?_;simp -dsimp -implicitDefEqProofs only[eR,c_,uq2,uq3];simp -dsimp -implicitDefEqProofs only[go_sem,htk];refine ⟨by omega,?_⟩;(refine an (bc) ?_;try simp -dsimp -implicitDefEqProofs only[go_sem, *]);refine ⟨by omega,?_⟩;refine ⟨by exact rfl,?_⟩;refine jn 34000 1 ⟨1,false⟩ true (uq8 eI (T++[z+1+(e:Int)])) hih (by decide) ?_ ?_ λr hr=>?_
     . simp -dsimp -implicitDefEqProofs only[go_sem]
     . refine pa ?_ rfl ?_
       . simp -dsimp -implicitDefEqProofs only[go_sem]
       have h:=kD (l:=34000) (v:=1) (sh:=⟨1,false⟩) (ys:=uq8 eI (T++[z+1+(e:Int)])) (xs:=[]) (r:=[]) 0 (i+1) (by simp;omega) trivial;rw[uq3,htl] at h;exact h
     cases F with
     |some k=>
      rw[Re k rfl];rw[show r= .aX [aM k,eB true] from hr];clear hr Re;simp -dsimp -implicitDefEqProofs only[go_sem,MH];exact rfl
     |none=>
      clear Re;obtain ⟨x,rfl,hx⟩:=hr;rcases hx with rfl|rfl
      . simp -dsimp -implicitDefEqProofs only[go_sem];exact ⟨by exact rfl,⟨by omega,by omega⟩,by simp;omega⟩
      simp -dsimp -implicitDefEqProofs only[go_sem];exact ⟨by exact rfl,⟨by omega,by omega⟩,by simp;omega⟩
   have Rc:decide (z+1+(((m.ak-(z+1)).toNat:Nat):Int)<m.ak)=false:=dF (by omega);rw[hE];simp -dsimp -implicitDefEqProofs only[go_sem,Rc];(exact ⟨by omega,by omega⟩)
 have hlt:decide ((c.length:Int)-1-(c.length:Int)≥0)=false:=dF (by omega);rw[hJ];clear hJ;simp -dsimp -implicitDefEqProofs only[go_sem,hlt,MH]
theorem yT {f:Nat->Option lI}{d:Nat}(h:f d≠none):∀D,d<D->cL f D≠none
 |0,hd=>absurd hd (Nat.not_lt_zero _)
 |D+1,hd=>by
  simp only[cL];cases hh:cL f D with
  |some k=>exact λh=>by cases h
  |none=>
   by_cases e:d=D
   . subst e;exact h
   exact absurd hh (yT h D (by omega))
theorem yU {m:aJ}:∀(n:Nat) (c t:lI),t.length=n->eP m (c++t)=true->m.least<=(bg (c++t) (c++t).length:Int)->(∀x∈t,0<=x/\x<m.ak)->b6 m n c≠none
 |0,c,t,hl,ho,hk,hx=>by
  obtain rfl:=List.eq_nil_of_length_eq_zero hl;rw[List.append_nil] at ho hk;rw[b6,if_pos ⟨ho,hk⟩];exact λh=>by cases h
 |n+1,c,t,hl,ho,hk,hx=>by
  cases t with
  |nil=>cases hl
  |cons d t=>
   have hd:=hx d (dL ..);have hoc:eP m c=true:=by
    have:=nM ho (i:=c.length) (by simp)
    rwa [List.take_left'] at this
    rfl
   rw[b6,if_pos hoc];refine yT (d:=d.toNat) ?_ _ (by omega);have e:((d.toNat:Nat):Int)=d:=(by omega);rw[e];have e2:c++d::t=(c++[d])++t:=(by simp);rw[e2] at ho hk;exact yU n (c++[d]) t (by simpa using hl) ho hk λx hx2=>hx x (List.mem_cons_of_mem _ hx2)
theorem rz {m:aJ}:∀(n:Nat) (c k:lI),b6 m n c=some k->k.length=c.length+n/\eP m k=true/\(m.least<=(bg k k.length:Int))/\((∀x∈c,0<=x/\x<m.ak)->∀x∈k,0<=x/\x<m.ak)
 |0,c,k,h=>by
  rw[b6] at h;split at h
  . rename_i hc;injection h with h
    subst h;exact ⟨rfl,hc.1,hc.2,λh=>h⟩
  cases h
 |n+1,c,k,h=>by
  rw[b6] at h;split at h
  . obtain ⟨d,h1,h2⟩:=rq h;obtain ⟨g1,g2,g3,g4⟩:=rz n _ k h2;refine ⟨by rw [g1];simp;omega,g2,g3,λhc=>g4 λx hx=> ?_⟩;rcases bk.1 hx with h|h
    . exact hc x h
    simp at h;omega
  cases h
def IV (ch dp:Int):lI:=(([0,1,2,3,4,5]:lI).map λx=>if x<dp then x else if (x-dp).tmod 2=0 then dp-2 else dp-1).take ch.toNat
def Xm (C D:Int):Bool:=
 (IV C D).length==C.toNat&&(a_ (IV C D).length).all (λi=>decide (aZ (IV C D) i<=1)&&(i==0||decide (fm ((IV C D).getD i 0-(IV C D).getD (i-1) 0)<=1)))&&
   decide ((if D<C then D else C)<=(bg (IV C D) (IV C D).length:Int))&&(IV C D).all λx=>decide (0<=x)&&decide (x<D)
theorem P':((a_ 5).all λc=>(a_ 7).all λd=>Xm ((c:Int)+2) ((d:Int)+2))=true:=by decide+kernel
theorem VM {m:aJ}(hm:aU m=true):(IV m.ae m.ak).length=m.ae.toNat/\eP m (IV m.ae m.ak)=true/\m.least<=(bg (IV m.ae m.ak) (IV m.ae m.ak).length:Int)/\∀x∈IV m.ae m.ak,0<=x/\x<m.ak:=by
 have tg:=aI hm;have hs:=kF hm;have hl:m.least<=if m.ak<m.ae then m.ak else m.ae:=by simp only[aU,bA,uq0,decide_eq_true_eq] at hm;exact hm.2.2
 have h1:=uq1.1 P' (m.ae.toNat-2) (dE.2 (by omega));have h2:=uq1.1 h1 (m.ak.toNat-2) (dE.2 (by omega));rw[show ((m.ae.toNat-2:Nat):Int)+2=m.ae by omega,show ((m.ak.toNat-2:Nat):Int)+2=m.ak by omega] at h2;unfold Xm at h2;simp only[uq0,beq_iff_eq,decide_eq_true_eq] at h2;obtain ⟨⟨⟨g1,g2⟩,g3⟩,g4⟩:=h2;generalize IV m.ae m.ak=z at*;refine ⟨g1,?_,by omega,λx hx=>?_⟩
 . unfold eP;rw [uq1] at g2 ⊢;intro i hi;have:=g2 i hi;simp only [uq0,decide_eq_true_eq,Bool.or_eq_true,beq_iff_eq] at this ⊢;refine ⟨by omega,?_⟩;unfold cw;rcases this.2 with h|h
   . simp[h]
   rw[decide_eq_true (show fm (z.getD i 0-z.getD (i-1) 0)<=m.step by omega)];simp
 have:=uq1.1 g4 x hx;simpa using this
theorem pt {m:aJ}(hm:aU m=true):∃k,b6 m m.ae.toNat []=some k:=by
 obtain ⟨h1,h2,h3,h4⟩:=VM hm;have:=yU m.ae.toNat [] (IV m.ae m.ak) h1 h2 h3 h4;cases hh:b6 m m.ae.toNat [] with
 |some k=>exact ⟨k,rfl⟩
 |none=>exact absurd hh this
theorem yV {m:aJ}{c k:lI}(hl:(c.length:Int)=m.ae)(hc:∀x∈c,0<=x/\x<m.ak):∀j,j<=c.length->dv m c j=some k->k.length=c.length/\eP m k=true/\m.least<=(bg k k.length:Int)/\∀x∈k,0<=x/\x<m.ak
 |0,_,h=>by cases h
 |j+1,hj,h=>by
  cases hh:dv m c j with
  |some k'=>
   rw[pr hh (j+1) (by omega)] at h;injection h with h
   subst h;exact yV hl hc j (by omega) hh
  |none=>
   rw[vJ hh] at h;obtain ⟨e,h1,h2⟩:=rq h;obtain ⟨g1,g2,g3,g4⟩:=rz j _ k h2;have hi:c.length-1-j<c.length:=(by omega);have hx:=hc c[c.length-1-j] (uq6 hi);have hgd:c.getD (c.length-1-j) 0=c[c.length-1-j]:=(by simp[uq4,hi]);rw[hgd] at h1 g1 g4;refine ⟨by rw[g1];simp;omega,g2,g3,g4 λx hx2=>?_⟩;rcases bk.1 hx2 with h|h
   . exact hc x (List.mem_of_mem_take h)
   simp at h;omega
def bL (bs:lU)(D:Int)(s:Src):Nat->lI × Src
 |0=>([],s)
 |i+1=>((bL bs D s i).1++[(nx bs D (bL bs D s i).2).1],(nx bs D (bL bs D s i).2).2)
theorem mU {bs:lU}{D:Int}{s:Src}(h:dO s)(hD:2<=D):∀i,dO (bL bs D s i).2/\(bL bs D s i).1.length=i/\∀x∈(bL bs D s i).1,0<=x/\x<D
 |0=>⟨h,rfl,λx hx=>by cases hx⟩
 |i+1=>by
  obtain ⟨h1,h2,h3⟩:=mU h hD i (bs:=bs);have hn:=dq bs D h1;refine ⟨hn.2.2.2,by simp[bL,h2],λx hx=>?_⟩;simp only[bL] at hx;rcases bk.1 hx with h|h
  . exact h3 x h
  simp at h;rw[h];exact ⟨hn.1,hn.2.2.1 (by omega)⟩
def oo (m:aJ)(c:lI):lI:=match dv m c c.length with
 |some k=>k
 |none=>(b6 m m.ae.toNat []).getD []
theorem F8 {m:aJ}{c:lI}(hm:aU m=true)(hl:(c.length:Int)=m.ae)(hc:∀x∈c,0<=x/\x<m.ak):
 ((oo m c).length:Int)=m.ae/\eP m (oo m c)=true/\m.least<=(bg (oo m c) (oo m c).length:Int)/\∀x∈oo m c,0<=x/\x<m.ak:=by
 have tg:=aI hm;unfold oo;cases h:dv m c c.length with
 |some k=>
  obtain ⟨g1,g2,g3,g4⟩:=yV hl hc c.length (bw _) h;exact ⟨by simp only;omega,g2,g3,g4⟩
 |none=>
  obtain ⟨k,hk⟩:=pt hm;obtain ⟨g1,g2,g3,g4⟩:=rz _ _ _ hk;simp only[hk,Option.getD_some];exact ⟨by simp at g1;omega,g2,g3,g4 λx hx=>by cases hx⟩
theorem B8 (v:Nat)(bs:lU)(s:Src)(m:aJ)(h:dO s)(hm:aU m=true)(hl:bs.length<=4096):
 mc pG 67 [ki v bs s] [.ptr 1000000000 v 0 0,kj m] (λx io=>x=aM (oo m (bL bs m.ak s m.ae.toNat).1)/\io=[ki v bs (bL bs m.ak s m.ae.toNat).2]):=by
 refine mc.cT 37 [.tmp 4] func67 (hv:=?_);have ⟨⟨zy,zz⟩,hd1,hd2⟩:=aI hm;have hct:=λi=>mU (bs:=bs) (D:=m.ak) h hd1 i;simp -dsimp -implicitDefEqProofs only[go_sem];refine aj.up [0,3] [20,21,22] [9,1000000000] m.ae.toNat (λ_=>True) (λi=>[(6,eI i),(5,.ref 9 0 0 (bL bs m.ak s i).1.length)]) (λi=>[(9,.row 0 ⟨1,false⟩ true ((bL bs m.ak s i).1.map eI)),(1000000000,ki v bs (bL bs m.ak s i).2)]) trivial ?_ rfl (λi hi _=>?_) (λ_=>?_)
 . simp -dsimp -implicitDefEqProofs only[go_sem];try simp[bL]
 . have hlt:decide ((i:Int)<m.ae)=true:=dT (by omega);obtain ⟨h1,h2,h3⟩:=hct i;have hn:=dq bs m.ak h1;have q:=λv=>bu v bs m.ak _ h1 hl;have Ha:bL bs m.ak s (i+1)=((bL bs m.ak s i).1++[(nx bs m.ak (bL bs m.ak s i).2).1],(nx bs m.ak (bL bs m.ak s i).2).2):=rfl;rw[Ha];clear Ha hct;generalize nx bs m.ak (bL bs m.ak s i).2=a at*;generalize bL bs m.ak s i=p at*;have htk:bp p.1.length (uq8 eI p.1)=uq8 eI p.1:=b7 (by simp);simp -dsimp -implicitDefEqProofs only[go_sem,hlt];(refine aR [1000000000] ?_;simp -dsimp -implicitDefEqProofs only[go_sem];refine aN (q _) ?_;simp -dsimp -implicitDefEqProofs only[go_sem]);exact ⟨by omega,⟨by omega,by omega⟩,by simp,by simp⟩
 have hlt:decide (((m.ae.toNat:Nat):Int)<m.ae)=false:=dF (by omega);obtain ⟨h1,h2,h3⟩:=hct m.ae.toNat;clear hct;generalize bL bs m.ak s m.ae.toNat=p at*;have hnx:=qa m p.1 hm (by omega) h3;simp -dsimp -implicitDefEqProofs only[go_sem,hlt];refine jn 9 0 ⟨1,false⟩ true (uq8 eI p.1) hnx (by decide) ?_ ?_ λr hr=>?_
 . simp -dsimp -implicitDefEqProofs only[go_sem]
 . refine pa ?_ rfl ?_
   . simp -dsimp -implicitDefEqProofs only[go_sem]
   have h:=kD (l:=9) (v:=0) (sh:=⟨1,false⟩) (ys:=uq8 eI p.1) (xs:=[]) (r:=[]) 0 p.1.length (by simp) trivial;rw[uq3,b7 (by simp)] at h;exact h
 subst hr;obtain ⟨k0,hk0⟩:=pt hm;unfold oo;cases dv m p.1 p.1.length with
 |some k=>
  unfold MH;simp -dsimp -implicitDefEqProofs only[go_sem]
 |none=>
  rw[hk0];unfold MH;have hf:=(ry m hm m.ae.toNat [] (by simp;omega) (λx hx=>by cases hx)).Mt (args':=[kj m,Tf]) (.cons (.refl _) (.cons (.nil _) .nil));unfold ru at hf;rw[hk0] at hf;simp -dsimp -implicitDefEqProofs only[go_sem];refine av (r:=.aX [aM k0,eB true]) hf ?_ ?_
  . simp[ax,ao,aq,aF]
  simp -dsimp -implicitDefEqProofs only[go_sem];exact rfl
structure Ww (m:aJ):Prop where
 c:0<=m.ae/\m.ae<=7
 d:0<=m.ak/\m.ak<=9
 s:0<=m.step/\m.step<=9
 a:0<=m.same/\m.same<=9
 l:0<=m.least/\m.least<=9
structure VN where
 ab:lI
 at':Int
 src:Src
def Qa (bs:lU)(m:aJ)(p:VN):VN:=
 ⟨p.ab++[p.at'],
  if (nx bs 24 (nx bs (2*(if m.step>0 then m.step else 0)+1) p.src).2).1>0 then
   (if (if p.at'+(nx bs (2*(if m.step>0 then m.step else 0)+1) p.src).1-m.step<m.ak-1 then p.at'+(nx bs (2*(if m.step>0 then m.step else 0)+1) p.src).1-m.step else m.ak-1)>0 then
     (if p.at'+(nx bs (2*(if m.step>0 then m.step else 0)+1) p.src).1-m.step<m.ak-1 then p.at'+(nx bs (2*(if m.step>0 then m.step else 0)+1) p.src).1-m.step else m.ak-1) else 0)
  else p.at'+(nx bs (2*(if m.step>0 then m.step else 0)+1) p.src).1-m.step,
  (nx bs 24 (nx bs (2*(if m.step>0 then m.step else 0)+1) p.src).2).2⟩
def jd (bs:lU)(m:aJ)(p:VN):Nat->VN
 |0=>p
 |i+1=>Qa bs m (jd bs m p i)
theorem yW {bs:lU}{m:aJ}(hm:Ww m){p:VN}(h:dO p.src)(h2:p.ab=[])(h3:0<=p.at'/\p.at'<=9):∀i,dO (jd bs m p i).src/\(jd bs m p i).ab.length=i/\ -20-20*(i:Int)<=(jd bs m p i).at'/\(jd bs m p i).at'<=20+20*(i:Int)
 |0=>⟨h,by rw[jd,h2];rfl,by simp only[jd];omega,by simp only[jd];omega⟩
 |i+1=>by
  obtain ⟨g1,g2,g3,g4⟩:=yW hm h h2 h3 i (bs:=bs);simp only[jd,Qa];generalize jd bs m p i=q at*;have hm1:=hm.s;have hm2:=hm.d;have hst:0<=2*(if m.step>0 then m.step else 0)+1/\2*(if m.step>0 then m.step else 0)+1<=19:=by split<;>omega
  generalize 2*(if m.step>0 then m.step else 0)+1=W at*;have n1:=dq bs W g1;have n2:(nx bs W q.src).1<=19:=by
   by_cases hw:W<=1
   . have:=n1.2.1 hw;omega
   have:=n1.2.2.1 (by omega);omega
  generalize nx bs W q.src=a at*;have n3:=dq bs 24 n1.2.2.2;generalize nx bs 24 a.2=b at*;refine ⟨n3.2.2.2,by simp[g2],?_,?_⟩<;>(repeat' split)<;>omega
def F9 (bs:lU)(p:VN):lI × Src:=if (nx bs 24 p.src).1=0 then (p.ab++[0],(nx bs 24 p.src).2) else (p.ab,(nx bs 24 p.src).2)
def IW (m:aJ):Int:=if m.ae<8 then m.ae else 8
def yX (bs:lU)(m:aJ)(s:Src):lI × Src:=
 F9 bs (jd bs m ⟨[],(nx bs (if m.ak>1 then m.ak else 1) s).1,(nx bs (if m.ak>1 then m.ak else 1) s).2⟩ (IW m).toNat)
theorem Qb {bs:lU}{p:VN}(h:dO p.src):dO (F9 bs p).2/\(F9 bs p).1.length<=p.ab.length+1:=by
 have:=(dq bs 24 h).2.2.2;unfold F9;split
 . exact ⟨this,by simp⟩
 exact ⟨this,by dsimp only;omega⟩
theorem F_ {bs:lU}{m:aJ}{s:Src}(hm:Ww m)(h:dO s):dO (nx bs (if m.ak>1 then m.ak else 1) s).2/\0<=(nx bs (if m.ak>1 then m.ak else 1) s).1/\(nx bs (if m.ak>1 then m.ak else 1) s).1<=9:=by
 have hd:=hm.d;have hw:(if m.ak>1 then m.ak else 1)<=9:=by split<;>omega
 generalize (if m.ak>1 then m.ak else 1)=W at*;have hn:=dq bs W h;refine ⟨hn.2.2.2,hn.1,?_⟩;by_cases h1:W<=1
 . have:=hn.2.1 h1;omega
 have:=hn.2.2.1 (by omega);omega
theorem Qc {bs:lU}{m:aJ}{s:Src}(hm:Ww m)(h:dO s):dO (yX bs m s).2/\(yX bs m s).1.length<=8:=by
 have h0:=F_ (bs:=bs) hm h;obtain ⟨h1,h2,_⟩:=yW (bs:=bs) hm (p:=⟨[],(nx bs (if m.ak>1 then m.ak else 1) s).1,(nx bs (if m.ak>1 then m.ak else 1) s).2⟩) h0.1 rfl h0.2 (IW m).toNat;have h3:=Qb (bs:=bs) h1;have h4:(IW m).toNat<=7:=by have:=hm.c;unfold IW;split<;>omega
 unfold yX;exact ⟨h3.1,by omega⟩
theorem zP (v:Nat)(bs:lU)(m:aJ)(s:Src)(hm:Ww m)(h:dO s)(hl:bs.length<=4096):
 oD pG 46 [ki v bs s] [.ptr 1000000000 v 0 0,kj m] (λx io=>x=aM (yX bs m s).1/\io=[ki v bs (yX bs m s).2]):=by
 refine oD.au 53 [.tmp 4] func46 (hv:=?_);have hc:=hm.c;have hd:=hm.d;have hs:=hm.s;have h0:=F_ (bs:=bs) hm h;have q0:=λv=>bu v bs (if m.ak>1 then m.ak else 1) _ h hl;unfold yX;generalize nx bs (if m.ak>1 then m.ak else 1) s=a at*;have hcn:=yW (bs:=bs) hm (p:=⟨[],a.1,a.2⟩) h0.1 rfl h0.2;have hch:0<=IW m/\IW m<=7:=by unfold IW;split<;>omega
 simp -dsimp -implicitDefEqProofs only[go_sem];(refine aR [1000000000] ?_;simp -dsimp -implicitDefEqProofs only[go_sem];refine aN (q0 _) ?_;simp -dsimp -implicitDefEqProofs only[go_sem]);refine aj.up [0,3] [17,23,24,29,32,38,44,45] [8,1000000000] (IW m).toNat (λ_=>True) (λi=>[(7,eI i),(6,eI (jd bs m ⟨[],a.1,a.2⟩ i).at'),(5,.ref 8 0 0 i)]) (λi=>[(8,.row 0 ⟨1,false⟩ true ((jd bs m ⟨[],a.1,a.2⟩ i).ab.map eI)),(1000000000,ki v bs (jd bs m ⟨[],a.1,a.2⟩ i).src)]) trivial ?_ rfl (λi hi _=>?_) (λ_=>?_)
 . simp -dsimp -implicitDefEqProofs only[go_sem,jd]
 . obtain ⟨g1,g2,g3,g4⟩:=hcn i;have hlt:decide ((i:Int)<IW m)=true:=dT (by omega);unfold IW at hlt;clear hcn;simp only [jd,Qa];generalize jd bs m ⟨[],a.1,a.2⟩ i=q at*;have htk:bp i (uq8 eI q.ab)=uq8 eI q.ab:=b7 (by simp;omega);have hst:0<=2*(if m.step>0 then m.step else 0)+1/\2*(if m.step>0 then m.step else 0)+1<=19:=(by split<;>omega);have n1:=dq bs (2*(if m.step>0 then m.step else 0)+1) g1;have q1:=λv=>bu v bs (2*(if m.step>0 then m.step else 0)+1) _ g1 hl;have n2:(nx bs (2*(if m.step>0 then m.step else 0)+1) q.src).1<=19:=by
    by_cases hw:(2*(if m.step>0 then m.step else 0)+1)<=1
    . have:=n1.2.1 hw;omega
    have:=n1.2.2.1 (by omega);omega
   generalize nx bs (2*(if m.step>0 then m.step else 0)+1) q.src=b at*;have n3:=dq bs 24 n1.2.2.2;have q2:=λv=>bu v bs 24 _ n1.2.2.2 hl;generalize nx bs 24 b.2=c at*;simp -dsimp -implicitDefEqProofs only[go_sem,hlt,htk];((with_reducible and_intros);all_goals try omega);refine aj.draw mixed rfl ?_;simp -dsimp -implicitDefEqProofs only[go_sem];((with_reducible and_intros);all_goals try ((refine ⟨?_,?_⟩<;>omega)));refine tH [1000000000] rfl ?_;simp -dsimp -implicitDefEqProofs only[go_sem];refine o5 (q1 _) ?_;simp -dsimp -implicitDefEqProofs only[go_sem];((with_reducible and_intros);all_goals try first|(refine ⟨?_,?_⟩<;>omega)|exact rfl);(refine aR [1000000000] ?_;simp -dsimp -implicitDefEqProofs only[go_sem];refine aN (q2 _) ?_;simp -dsimp -implicitDefEqProofs only[go_sem]);rcases b0:decide (c.1>0) with _|_
   . rw[if_neg (of_decide_eq_false b0)];simp -dsimp -implicitDefEqProofs only[go_sem];((with_reducible and_intros);all_goals try first|(refine ⟨?_,?_⟩<;>omega)|exact rfl);all_goals (simp;done)
   rw[if_pos (oT b0)];simp -dsimp -implicitDefEqProofs only[go_sem];((with_reducible and_intros);all_goals try first|(refine ⟨?_,?_⟩<;>omega)|exact rfl);all_goals (simp;done)
 obtain ⟨g1,g2,g3,g4⟩:=hcn (IW m).toNat;have hlt:decide (((IW m).toNat:Int)<IW m)=false:=dF (by omega);generalize hW:IW m=W at*;unfold IW at hW;clear hcn;generalize jd bs m ⟨[],a.1,a.2⟩ W.toNat=q at*;unfold F9;have n3:=dq bs 24 g1;have q2:=λv=>bu v bs 24 _ g1 hl;generalize nx bs 24 q.src=c at*;simp -dsimp -implicitDefEqProofs only[go_sem,hlt,hW];(refine aR [1000000000] ?_;simp -dsimp -implicitDefEqProofs only[go_sem];refine aN (q2 _) ?_;simp -dsimp -implicitDefEqProofs only[go_sem]);rcases b0:(c.1==0) with _|_
 . rw[if_neg (beq_eq_false_iff_ne.1 b0)];simp -dsimp -implicitDefEqProofs only[go_sem];((with_reducible and_intros);all_goals try omega);all_goals first|(simp;done)|(rw[b7 (l:=uq8 eI q.ab) (by simp;omega)])
 rw[if_pos (beq_iff_eq.1 b0)];simp -dsimp -implicitDefEqProofs only[go_sem];((with_reducible and_intros);all_goals try omega);all_goals first|(simp;done)|(rw[b7 (l:=uq8 eI q.ab) (by simp;omega)];try (rw[b7 (by simp;omega)];simp))
theorem nQ {f g:Nat->Option lI}:∀{D:Nat},(∀d,d<D->f d=g d)->cL f D=cL g D
 |0,_=>rfl
 |D+1,h=>by simp only[cL];rw[nQ (D:=D) (λd hd=>h d (by omega)),h D (by omega)]
theorem t_ (F:Nat->lL):∀D,cL (λd=>(F d).head?) D=((a_ D).flatMap F).head?
 |0=>rfl
 |D+1=>by rw[ba,List.flatMap_append,List.head?_append,←t_ F D];simp only[cL,List.flatMap_cons,List.flatMap_nil,List.append_nil];cases cL (λd=>(F d).head?) D<;>rfl
theorem pw (m:aJ):∀(n:Nat) (c:lI),b6 m n c=if eP m c=true then (a6 m n c).head? else none
 |0,c=>by
  simp only[b6,a6];by_cases h1:eP m c=true
  . rw [if_pos h1];by_cases h2:m.least<=(bg c c.length:Int)
    . rw[if_pos ⟨h1,h2⟩,if_neg (by omega)];rfl
    rw[if_neg (λh=>h2 h.2),if_pos (by omega)];rfl
  rw[if_neg (λh=>h1 h.1),if_neg h1]
 |n+1,c=>by
  simp only[b6];by_cases h1:eP m c=true
  . rw[if_pos h1,if_pos h1];simp only[a6];rw[←t_];refine nQ λd _=>?_;rw[pw m n,jt,h1,Bool.true_and];split<;>rfl
  rw[if_neg h1,if_neg h1]
theorem gS (F:Nat->lL)(a:Nat):∀b,(a_ (a+b)).flatMap F=(a_ a).flatMap F++(a_ b).flatMap λe=>F (a+e)
 |0=>by simp
 |b+1=>by rw[show a+(b+1)=(a+b)+1 by omega,ba,List.flatMap_append,gS F a b,ba,List.flatMap_append];simp
theorem vK {m:aJ}{k:lI}(h:qG m k):∀j,j<=k.length->∃a b,a6 m j (k.take (k.length-j))=a++k::b/\dv m k j=b.head?
 |0,_=>by
  obtain ⟨h1,h2,h3,h4⟩:=h;refine ⟨[],[],?_,rfl⟩;rw[Nat.sub_zero,cE,a6,if_neg h3];rfl
 |j+1,hj=>by
  obtain ⟨a,b,e1,e2⟩:=vK h j (by omega);obtain ⟨h1,h2,h3,h4⟩:=h;have hi:k.length-1-j<k.length:=by omega
  have hx:=h4 _ (uq6 hi);have hg:k.getD (k.length-1-j) 0=k[k.length-1-j]:=by simp[uq4,hi]
  have ht:=yR hi;rw[show k.length-1-j+1=k.length-j by omega,hg] at ht;have hok:=nM h2 (i:=k.length-j) (by omega);rw[ht,jt] at hok;obtain ⟨mi,rJ⟩:=Bool.and_eq_true_iff.1 hok
  have hnx:dv m k (j+1)=match dv m k j with
   |some k=>some k
   |none=>cL (λ(e:Nat)=>b6 m j (k.take (k.length-1-j)++[k[k.length-1-j]+1+(e:Int)])) (m.ak-(k[k.length-1-j]+1)).toNat:=by
   simp only[dv,hg]<;>cases dv m k j<;>rfl
  rw[show k.length-(j+1)=k.length-1-j by omega];generalize k[k.length-1-j]=z at*;generalize hp:k.take (k.length-1-j)=p at*;rw[ht] at e1;have hz:z=((z.toNat:Nat):Int):=by omega
  have hsp:m.ak.toNat=z.toNat+(1+(m.ak-(z+1)).toNat):=by omega
  let F:Nat->lL:=λd=>if (bK m p (d:Int)&&gb m p (d:Int))=true then a6 m j (p++[(d:Int)]) else []
  have hF:F z.toNat=a++k::b:=by show (if (bK m p ((z.toNat:Nat):Int)&&gb m p ((z.toNat:Nat):Int))=true then a6 m j (p++[((z.toNat:Nat):Int)]) else [])=_;rw[←hz,if_pos rJ,e1]
  have hk:a6 m (j+1) p=(a_ z.toNat).flatMap F++(F z.toNat++(a_ (m.ak-(z+1)).toNat).flatMap λe=>F (z.toNat+(1+e))):=by show (a_ m.ak.toNat).flatMap F=_;rw[hsp,gS,gS (λe=>F (z.toNat+e)) 1];simp[ba]
  refine ⟨(a_ z.toNat).flatMap F++a,b++(a_ (m.ak-(z+1)).toNat).flatMap λe=>F (z.toNat+(1+e)),?_,?_⟩
  . rw[hk,hF];simp
  rw[hnx,e2,List.head?_append,←t_];cases b.head? with
  |some x=>rfl
  |none=>
   show cL _ _=_;simp only[Option.none_or];refine nQ λe _=>?_;rw[pw,jt,mi,Bool.true_and];have:z+1+(e:Int)=((z.toNat+(1+e):Nat):Int):=(by omega);rw[this];show _=(if (bK m p ((z.toNat+(1+e):Nat):Int)&&gb m p ((z.toNat+(1+e):Nat):Int))=true then a6 m j (p++[((z.toNat+(1+e):Nat):Int)]) else []).head?
   split<;>rfl
theorem IX {m:aJ}(hm:0<=m.ae){a b:lL}{k:lI}(h:bx m=a++k::b):dv m k k.length=b.head? :=by
 have hk:k∈bx m:=by rw[h];simp
 have hok:=kq hm hk;obtain ⟨a',b',e1,e2⟩:=vK hok k.length (bw _);rw[Nat.sub_self,c_] at e1;have hl:m.ae.toNat=k.length:=by have:=hok.len;omega
 have e1':bx m=a'++k::b':=by rw[bx,hl];exact e1
 have hn:=pn (m:=m) m.ae.toNat [];rw [show a6 m m.ae.toNat []=bx m from rfl,h] at hn;rw [h] at e1';have:a=a'/\k::b=k::b':=by
  have key:∀(a a' b b':lL),a++k::b=a'++k::b'->(a++k::b).Nodup->a=a'/\b=b':=by
   intro a;induction a with
   |nil=>
    intro a' b b' h hn;cases a' with
    |nil=>exact ⟨rfl,by simpa using h⟩
    |cons x r=>
     simp only[List.nil_append,List.cons_append,List.cons.injEq] at h;obtain ⟨rfl,h⟩:=h;simp only[List.nil_append,List.nodup_cons] at hn;exact absurd (by rw[h];simp) hn.1
   |cons x r ih=>
    intro a' b b' h hn;cases a' with
    |nil=>
     simp only[List.nil_append,List.cons_append,List.cons.injEq] at h;obtain ⟨rfl,h⟩:=h;simp only[List.cons_append,List.nodup_cons] at hn;exact absurd (by simp) hn.1
    |cons x' r'=>
     simp only[List.cons_append,List.cons.injEq] at h;obtain ⟨rfl,h⟩:=h;simp only[List.cons_append,List.nodup_cons] at hn;obtain ⟨h1,h2⟩:=ih r' b b' h hn.2;exact ⟨by rw[h1],h2⟩
  obtain ⟨h1,h2⟩:=key a a' b b' e1' hn;exact ⟨h1,by rw[h2]⟩
 rw[e2];have:=this.2;simp only[List.cons.injEq,true_and] at this;rw[this]
theorem IY (m:aJ):b6 m m.ae.toNat []=(bx m).head? :=by rw[pw,if_pos (show eP m []=true from rfl)];rfl
def lW (m:aJ)(t ab:lL):Bool:=((gR m t ab).length:Int)==0
def MI (o:Option lI):AV:=match o with
 |some k=>aM k
 |none=>.val (.slice none 0 0)
theorem cY (k:lI):MI (some k)=aM k:=rfl
theorem fP:MI none= .val (.slice none 0 0):=rfl
theorem Dj (o:Option lI):MH o= .aX [MI o,eB o.isSome]:=by cases o<;>rfl
theorem yY {m:aJ}(hm:0<=m.ae){i:Nat}{k:lI}(h:(bx m)[i]? =some k):dv m k k.length=(bx m)[i+1]? :=by
 obtain ⟨hi,e⟩:=List.getElem?_eq_some_iff.1 h;have hs:bx m=(bx m).take i++k::(bx m).drop (i+1):=by rw[←e,←List.drop_eq_getElem_cons hi,List.take_append_drop]
 rw[IX hm hs,List.head?_drop]
structure SS where
 tries:Nat
 stop:Bool
 found:List lL
def DX (m:aJ)(t:lL)(lim:Nat)(part:lL)(rec:lL->SS->Bool × SS):lL->SS->Bool × SS
 | [],z=>(false,z)
 |k::ks,z=>
  if ((z.tries:Int)==(lim:Int))=true then (true,⟨z.tries,true,z.found⟩)
  else if lW m t (part++[k])=true then
   (if (rec (part++[k]) ⟨z.tries+1,z.stop,z.found⟩).1=true then (true,(rec (part++[k]) ⟨z.tries+1,z.stop,z.found⟩).2)
   else DX m t lim part rec ks (rec (part++[k]) ⟨z.tries+1,z.stop,z.found⟩).2)
  else DX m t lim part rec ks ⟨z.tries+1,z.stop,z.found⟩
def dQ (m:aJ)(t:lL)(lim:Nat):Nat->lL->SS->Bool × SS
 |0,part,z=>(true,⟨z.tries,z.stop,[part]⟩)
 |d+1,part,z=>DX m t lim part (dQ m t lim d) (bx m) z
structure VO (m:aJ) (lim n:Nat) (b:Bool) (z:SS):Prop where
 tr:z.tries<=lim
 no:b=false->z.found=[]
 one:z.found.length<=1
 fl:∀f∈z.found,f.length=n/\∀k∈f,k∈bx m
theorem IZ {m:aJ}{t:lL}{lim n:Nat}{part:lL}{rec:lL->SS->Bool × SS}(hp:∀k∈part,k∈bx m)
 (hr:∀k z,k∈bx m->z.tries<=lim->z.found=[]->VO m lim n (rec (part++[k]) z).1 (rec (part++[k]) z).2):
 ∀(ks:lL)(z:SS),(∀k∈ks,k∈bx m)->z.tries<=lim->z.found=[]->VO m lim n (DX m t lim part rec ks z).1 (DX m t lim part rec ks z).2
 | [],z,_,h1,h2=>⟨h1,λ_=>h2,by rw[DX,h2];simp,λf hf=>by rw[DX,h2] at hf;cases hf⟩
 |k::ks,z,hk,h1,h2=>by
  have hk1:=hk k (dL ..);have hk2:∀k∈ks,k∈bx m:=λx hx=>hk x (List.mem_cons_of_mem _ hx);unfold DX;split
  . exact ⟨h1,λh=>(by cases h),by simp[h2],λf hf=>by simp[h2] at hf⟩
  rename_i hne;have hne:z.tries≠lim:=λe=>hne (by rw[e];simp);split
  . have:=hr k ⟨z.tries+1,z.stop,z.found⟩ hk1 (by simp only;omega) h2;split
    . rename_i hb;rw[hb] at this;exact ⟨this.tr,λh=>(by cases h),this.one,this.fl⟩
    rename_i hb;exact IZ hp hr ks _ hk2 this.tr (this.no (by simpa using hb))
  exact IZ hp hr ks _ hk2 (by simp only;omega) h2
theorem k9 {m:aJ}{t:lL}{lim:Nat}:∀(d:Nat) (part:lL) (z:SS),(∀k∈part,k∈bx m)->z.tries<=lim->z.found=[]->VO m lim (part.length+d) (dQ m t lim d part z).1 (dQ m t lim d part z).2
 |0,part,z,hp,h1,h2=>⟨h1,λh=>(by cases h),by simp [dQ],λf hf=>by
   simp only[dQ,cM] at hf;subst hf;exact ⟨rfl,hp⟩⟩
 |d+1,part,z,hp,h1,h2=>by
  refine IZ hp (λk z hk h1 h2=>?_) (bx m) z (λ_ h=>h) h1 h2
  have:=k9 d (part++[k]) z (t:=t) (λx hx=>by
   rcases bk.1 hx with hx|hx
   . exact hp x hx
   simp at hx;subst hx;exact hk) h1 h2
  rw[uq7,List.length_singleton] at this;rw[show part.length+(d+1)=part.length+1+d by omega];exact this
theorem B9 (ab:lL)(key:lI)(h:ab.length<=1000):Fn pG 241 [aQ ab,aM key] false (· =aQ (ab++[key])):=by
 refine Fn.bP 11 [.tmp 4] func241 (hv:=?_);have tc:(ab.map aM).take ab.length=ab.map aM:=b7 (by simp);cases ab with
 |nil=>
  simp -dsimp -implicitDefEqProofs only[go_sem];all_goals first|(simp[aM];done)|skip
 |cons c r=>
  have hf:bm ((c::r).map aM)=false:=rfl;generalize c::r=ab at*;simp -dsimp -implicitDefEqProofs only[go_sem,hf,tc];((with_reducible and_intros);all_goals try omega);all_goals first|(refine .inr ⟨by omega,?_⟩;rw[b7 (by simp)];simp[aM];done)|skip
theorem B_ (m:aJ)(t ab:lL)(hm:aU m=true)(h0:ab.length<=1000)(h1:ab.length<=t.length)(h2:0<t.length)(hk:∀i (hi:i<t.length),t[i].length=(t.getD 0 []).length)(hd:(t.getD 0 []).length<=1000)(hc:∀x∈ab,(x.length:Int)=m.ae):
 Fn pG 242 [jR m t,aQ ab] true (· =eB (lW m t ab)):=by
 have hq:=rk m t ab hm h0 h1 h2 hk hd hc;refine Fn.au 10 [.tmp 4] func242 (hv:=?_);unfold lW;generalize gR m t ab=F at*;simp -dsimp -implicitDefEqProofs only[go_sem];refine av (hq) (by simp[ax,ao,aq,aF]) ?_;simp -dsimp -implicitDefEqProofs only[go_sem]
theorem ua (xs:lI)(h:xs.length<=1048576):Fn pG 57 [aM xs] false (· =aM xs):=by refine Fn.bP 6 [.tmp 2] func57 (hv:=?_);simp -dsimp -implicitDefEqProofs only[go_sem];(all_goals try omega)
theorem nR (t:lL)(h:t.length<=1000)(h2:∀x∈t,x.length<=1048576):Fn pG 31 [aQ t] false (· =aQ t):=by
 refine Fn.bP 21 [.tmp 2] func31 (hv:=?_);simp -dsimp -implicitDefEqProofs only[go_sem];refine aj.up [0] [8,17,18,19] [5] t.length (λ_=>True) (λi=>[(4,eI i),(3,.ref 5 0 0 i)]) (λi=>[(5,.row 0 ⟨1,false⟩ (i==0) ((t.take i).map aM))]) trivial ?_ rfl (λi hi _=>?_) (λ_=>?_)
 . simp -dsimp -implicitDefEqProofs only[go_sem]
 . have gi:=get_some hi;have li:=aE hi;have ho:=ua t[i] (h2 _ (uq6 hi));have e2:(t.take (i+1)).map aM=(t.take i).map aM++[aM t[i]]:=(by rw[dh hi,List.map_append];rfl);have hln:(t.take i).length=i:=(by simp;omega);have e0:(i+1==0)=false:=rfl;rw[e0,e2];clear e0 e2;generalize t.take i=F at*;generalize t[i]=x at*;have tF:(F.map aM).take i=F.map aM:=b7 (by simp;omega);simp -dsimp -implicitDefEqProofs only[go_sem,gi,li];((with_reducible and_intros);all_goals try omega);refine av (ho) (by simp[ax,ao,aF]) ?_;simp -dsimp -implicitDefEqProofs only[go_sem];refine .inr ⟨by omega,by omega,(by cases i with|zero=>exact .inr rfl|succ i=>exact .inl rfl),⟨by omega,by omega⟩,?_⟩;simp -dsimp -implicitDefEqProofs only[go_sem,tF];all_goals try exact rfl
 have tt:(t.map aM).take t.length=t.map aM:=b7 (by simp);rw[cE];simp -dsimp -implicitDefEqProofs only[go_sem,aA]
def eF (fs:List lL):AV:=match fs with
 | []=>.val (.slice none 0 0)
 |f::r=>.arr ⟨1,false⟩ (aQ f::r.map aQ)
theorem cQ:eF []= .val (.slice none 0 0):=rfl
theorem ub (f:lL):eF [f]= .arr ⟨1,false⟩ [aQ f]:=rfl
abbrev sB (v:Nat)(m:aJ)(t:lL)(lim:Nat)(z:SS):bf:=
 .box v [eI m.ae,eI m.ak,eI m.step,eI m.same,eI m.least,aQ t,eI lim,eI 1,eI z.tries,eB z.stop,eF z.found]
structure Qd (t:lL):Prop where
 n:1<=t.length/\t.length<=900
 r:∀i (hi:i<t.length),t[i].length=(t.getD 0 []).length
 d:(t.getD 0 []).length<=1000
theorem yZ {m:aJ}(hm:aU m=true):∃k0,(bx m)[0]? =some k0/\Fn pG 87 [kj m,Tf] false (· = .aX [aM k0,eB true]):=by have ⟨⟨n1,n2⟩,n3,n4⟩:=aI hm;obtain ⟨k0,hk0⟩:=pt hm;have hf:=(ry m hm m.ae.toNat [] (by simp;omega) (λx hx=>by cases hx)).Mt (args':=[kj m,Tf]) (.cons (.refl _) (.cons (.nil _) .nil));unfold ru at hf;rw[hk0] at hf;exact ⟨k0,by rw[←List.head?_eq_getElem?,←IY,hk0],hf⟩
set_option maxHeartbeats 16000000 in
theorem MJ (m:aJ)(t:lL)(lim:Nat)(hm:aU m=true)(ht:Qd t)(hl:lim<=4000):∀(d v:Nat) (part:lL) (z:SS),part.length+d=t.length->(∀k∈part,k∈bx m)->z.tries<=lim->z.found=[]→
 mc pG 189 [sB v m t lim z] [.ptr 1000000000 v 0 0,aQ part,.val (.slice none 0 0)] (λx io=>x=eB (dQ m t lim d part z).1/\io=[sB v m t lim (dQ m t lim d part z).2]):=by
 have ⟨⟨n1,n2⟩,n3,n4⟩:=aI hm;have hK:=λk (hk:k∈bx m)=>kq (m:=m) (by omega) hk;have ⟨⟨ht1,ht2⟩,ht3,ht4⟩:=ht;obtain ⟨k0,hk1,hf⟩:=yZ hm;intro d;induction d with
 |zero=>
  intro v part z hd hp hz1 hz2;refine mc.cT 105 [.tmp 6] func189 (hv:=?_);obtain ⟨tries,stop,found⟩:=z;simp only at hz1 hz2;subst hz2;have hln:((part.length:Int)==(t.length:Int))=true:=by simp;omega
  unfold dQ;simp -dsimp -implicitDefEqProofs only[go_sem,cQ,hln];refine .inr ?_;refine aj.Vt 1000000000 v 10 26 0 0 1 ⟨1,false⟩ false _ _ (by decide) rfl rfl rfl (by simp) ?_;refine aj.draw mixed rfl ?_;simp -dsimp -implicitDefEqProofs only[go_sem];((with_reducible and_intros);all_goals try exact rfl)
 |succ d ih=>
  intro v part z hd hp hz1 hz2;refine mc.cT 105 [.tmp 6] func189 (hv:=?_);have hln:((part.length:Int)==(t.length:Int))=false:=by simp;omega
  obtain ⟨RR,hR⟩:∃RR,dQ m t lim (d+1) part z=RR:=⟨_,rfl⟩;rw[hR];unfold dQ at hR;obtain ⟨tries0,stop0,found0⟩:=z;simp only at hz1 hz2;subst hz2;simp -dsimp -implicitDefEqProofs only[go_sem,hln,cQ];refine av hf (by simp[ax,ao,aq,aF]) ?_;have h00:decide ((0:Int)>0)=false:=rfl;simp -dsimp -implicitDefEqProofs only[go_sem,h00];have hdr:DX m t lim part (dQ m t lim d) ((bx m).drop 0) ⟨tries0,stop0,[]⟩=RR:=hR;clear hR
  refine aj.lp [0,1] [83,89,93,102] [1000000000] (λx:Nat × SS=>x.1<=(bx m).length/\x.2.tries<=lim/\x.2.found=[]/\DX m t lim part (dQ m t lim d) ((bx m).drop x.1) x.2=RR) (λx=>[(8,eB ((bx m)[x.1]?).isSome),(7,MI ((bx m)[x.1]?))])
   (λx=>[(1000000000,sB v m t lim x.2)]) (λx=>(bx m).length-x.1) (0,⟨tries0,stop0,[]⟩) ⟨Nat.zero_le _,hz1,rfl,hdr⟩ ?_ rfl (λx hx=>?_)
  . rw[hk1];simp -dsimp -implicitDefEqProofs only[go_sem,cY,da,cQ]
  obtain ⟨i,z⟩:=x;obtain ⟨x1,x2,x3,x4⟩:=hx;obtain ⟨tries,stop,found⟩:=z;simp only at x1 x2 x3 x4 ⊢;subst x3;rcases Nat.lt_or_ge i (bx m).length with hi|hi
  . have gi:=get_some hi;have hki:=hK _ (uq6 hi);have hkm:=uq6 hi;rw [List.drop_eq_getElem_cons hi] at x4;generalize (bx m)[i]=k at*;have hnx:=qa m k hm hki.len hki.el;rw [yY (by omega) gi,Dj] at hnx;have hw:=B9 part k (by omega);have hp2:∀x∈part++[k],x∈bx m:=λx hx=>by
     rcases bk.1 hx with hx|hx
     . exact hp x hx
     simp at hx;subst hx;exact hkm
    have ho:=B_ m t (part++[k]) hm (by simp;omega) (by simp;omega) (by omega) ht3 ht4 (λx hx=>(hK x (hp2 x hx)).len);have lx:=λz=>ih v (part++[k]) z (by simp;omega) hp2;have Jz:=λz h1 h2=>k9 (m:=m) (t:=t) (lim:=lim) d (part++[k]) z hp2 h1 h2;unfold DX at x4;rw[gi];generalize hO:(bx m)[i+1]? =o at*;generalize lW m t (part++[k])=b at*;clear hK ih;cases htl:((tries:Int)==(lim:Int)) with
    |true=>
     rw[htl,if_pos rfl] at x4;subst x4;simp -dsimp -implicitDefEqProofs only[go_sem,cY,da];refine aj.draw mixed rfl ?_;simp -dsimp -implicitDefEqProofs only[go_sem,htl];((with_reducible and_intros);all_goals try exact rfl)
    |false=>
     have Y8:tries≠lim:=λe=>by rw[e] at htl;simp at htl
     rw[htl,if_neg (by simp)] at x4;simp -dsimp -implicitDefEqProofs only[go_sem,cY,da];refine aj.draw mixed rfl ?_;simp -dsimp -implicitDefEqProofs only[go_sem,htl];((with_reducible and_intros);all_goals try first|(refine ⟨?_,?_⟩<;>omega)|exact rfl);refine av hw (by simp[ax,ao,aF]) ?_;simp -dsimp -implicitDefEqProofs only[go_sem];refine aa ho ?_;cases b with
     |true=>
      rw[if_pos rfl] at x4;have lx:=lx ⟨tries+1,stop,[]⟩ (by simp only;omega) rfl;have Jz:=Jz ⟨tries+1,stop,[]⟩ (by simp only;omega) rfl;generalize dQ m t lim d (part++[k]) ⟨tries+1,stop,[]⟩=F at*;obtain ⟨bb,tr,st,fd⟩:=F;obtain ⟨g1,g2,g3,g4⟩:=Jz;simp only at g1 g2 g3 x4;cases bb with
      |true=>
       rw[if_pos rfl] at x4;subst x4;simp -dsimp -implicitDefEqProofs only[go_sem];refine cX [1000000000] ?_;cases fd with
       |nil=>
        simp -dsimp -implicitDefEqProofs only[go_sem,cQ];refine bY lx ?_;rintro _ _ ⟨rfl,rfl⟩;simp -dsimp -implicitDefEqProofs only[go_sem,cQ];all_goals try exact rfl
       |cons f r=>
        obtain rfl:r=[]:=by cases r with|nil=>rfl|cons=>simp at g3
        simp -dsimp -implicitDefEqProofs only[go_sem,cQ];refine bY lx ?_;rintro _ _ ⟨rfl,rfl⟩;simp -dsimp -implicitDefEqProofs only[go_sem,ub];all_goals try exact rfl
      |false=>
       rw[if_neg (by simp)] at x4;obtain rfl:=g2 rfl;simp -dsimp -implicitDefEqProofs only[go_sem];refine cX [1000000000] ?_;simp -dsimp -implicitDefEqProofs only[go_sem,cQ];refine bY lx ?_;rintro _ _ ⟨rfl,rfl⟩;simp -dsimp -implicitDefEqProofs only[go_sem,cQ];refine av hnx (by simp[ax,ao,aq,aF]) ?_;cases o with
       |some k2=>
        simp -dsimp -implicitDefEqProofs only[go_sem];refine ⟨(i+1,⟨tr,st,[]⟩),⟨by omega,g1,rfl,x4⟩,by simp only;omega,?_⟩;rw[hO];simp -dsimp -implicitDefEqProofs only[go_sem,cY,da,cQ]
       |none=>
        simp -dsimp -implicitDefEqProofs only[go_sem];refine ⟨(i+1,⟨tr,st,[]⟩),⟨by omega,g1,rfl,x4⟩,by simp only;omega,?_⟩;rw[hO];simp -dsimp -implicitDefEqProofs only[go_sem,fP,Option.isSome_none,cQ]
     |false=>
      rw[if_neg (by simp)] at x4;simp -dsimp -implicitDefEqProofs only[go_sem];refine av hnx (by simp[ax,ao,aq,aF]) ?_;cases o with
      |some k2=>
       simp -dsimp -implicitDefEqProofs only[go_sem];refine ⟨(i+1,⟨tries+1,stop,[]⟩),⟨by omega,by simp only;omega,rfl,x4⟩,by simp only;omega,?_⟩;rw[hO];simp -dsimp -implicitDefEqProofs only[go_sem,cY,da,cQ];all_goals try exact rfl
      |none=>
       simp -dsimp -implicitDefEqProofs only[go_sem];refine ⟨(i+1,⟨tries+1,stop,[]⟩),⟨by omega,by simp only;omega,rfl,x4⟩,by simp only;omega,?_⟩;rw[hO];simp -dsimp -implicitDefEqProofs only[go_sem,fP,Option.isSome_none,cQ];all_goals try exact rfl
  have gn:(bx m)[i]? =none:=List.getElem?_eq_none hi;rw[List.drop_of_length_le hi,DX] at x4;subst x4;rw[gn];simp -dsimp -implicitDefEqProofs only[go_sem,fP,Option.isSome_none,cQ];all_goals try exact rfl
set_option maxHeartbeats 16000000 in
theorem I0 (m:aJ)(t:lL)(lim:Nat)(hm:aU m=true)(ht:Qd t)(hl:lim<=4000)(d v:Nat)(z:SS)(hd0:d+1=t.length)(hz1:z.tries<=lim)(hz2:z.found=[]):
 mc pG 189 [sB v m t lim z] [.ptr 1000000000 v 0 0,.val (.slice none 0 0),.val (.slice none 0 0)] (λx io=>x=eB (dQ m t lim (d+1) [] z).1/\io=[sB v m t lim (dQ m t lim (d+1) [] z).2]):=by
 have ⟨⟨n1,n2⟩,n3,n4⟩:=aI hm;have hK:=λk (hk:k∈bx m)=>kq (m:=m) (by omega) hk;have ⟨⟨ht1,ht2⟩,ht3,ht4⟩:=ht;obtain ⟨k0,hk1,hf⟩:=yZ hm;refine mc.cT 105 [.tmp 6] func189 (hv:=?_);have hln:((0:Int)==(t.length:Int))=false:=by simp;omega
 have hd:([]:lL).length+(d+1)=t.length:=by simp;omega
 have hp:∀k∈([]:lL),k∈bx m:=λk h=>by cases h
 obtain ⟨RR,hR⟩:∃RR,dQ m t lim (d+1) [] z=RR:=⟨_,rfl⟩;rw[hR];unfold dQ at hR;obtain ⟨tries0,stop0,found0⟩:=z;simp only at hz1 hz2;subst hz2;simp -dsimp -implicitDefEqProofs only[go_sem,hln,cQ];refine av hf (by simp[ax,ao,aq,aF]) ?_;have h00:decide ((0:Int)>0)=false:=rfl;simp -dsimp -implicitDefEqProofs only[go_sem,h00];have hdr:DX m t lim [] (dQ m t lim d) ((bx m).drop 0) ⟨tries0,stop0,[]⟩=RR:=hR;clear hR
 refine aj.lp [0,1] [83,89,93,102] [1000000000] (λx:Nat × SS=>x.1<=(bx m).length/\x.2.tries<=lim/\x.2.found=[]/\DX m t lim [] (dQ m t lim d) ((bx m).drop x.1) x.2=RR) (λx=>[(8,eB ((bx m)[x.1]?).isSome),(7,MI ((bx m)[x.1]?))])
  (λx=>[(1000000000,sB v m t lim x.2)]) (λx=>(bx m).length-x.1) (0,⟨tries0,stop0,[]⟩) ⟨Nat.zero_le _,hz1,rfl,hdr⟩ ?_ rfl (λx hx=>?_)
 . rw[hk1];simp -dsimp -implicitDefEqProofs only[go_sem,cY,da,cQ]
 obtain ⟨i,z⟩:=x;obtain ⟨x1,x2,x3,x4⟩:=hx;obtain ⟨tries,stop,found⟩:=z;simp only at x1 x2 x3 x4 ⊢;subst x3;rcases Nat.lt_or_ge i (bx m).length with hi|hi
 . have gi:=get_some hi;have hki:=hK _ (uq6 hi);have hkm:=uq6 hi;rw [List.drop_eq_getElem_cons hi] at x4;generalize (bx m)[i]=k at*;have hnx:=qa m k hm hki.len hki.el;rw [yY (by omega) gi,Dj] at hnx;have hw:=(B9 [] k (by simp)).Mt (args':=[.val (.slice none 0 0),aM k]) (.cons (.nil _) (.cons (.refl _) .nil));have hp2:∀x∈[]++[k],x∈bx m:=λx hx=>by
    rcases bk.1 hx with hx|hx
    . exact hp x hx
    simp at hx;subst hx;exact hkm
   have ho:=B_ m t ([]++[k]) hm (by simp) (by simp only[List.nil_append,List.length_singleton];omega) (by omega) ht3 ht4 (λx hx=>(hK x (hp2 x hx)).len);have lx:=λz=>MJ m t lim hm ht hl d v ([]++[k]) z (by simp only[List.nil_append,List.length_singleton];omega) hp2;have Jz:=λz h1 h2=>k9 (m:=m) (t:=t) (lim:=lim) d ([]++[k]) z hp2 h1 h2;unfold DX at x4;rw[gi];generalize hO:(bx m)[i+1]? =o at*;generalize lW m t ([]++[k])=b at*;clear hK;cases htl:((tries:Int)==(lim:Int)) with
   |true=>
    rw[htl,if_pos rfl] at x4;subst x4;simp -dsimp -implicitDefEqProofs only[go_sem,cY,da];refine aj.draw mixed rfl ?_;simp -dsimp -implicitDefEqProofs only[go_sem,htl];((with_reducible and_intros);all_goals try exact rfl)
   |false=>
    have Y8:tries≠lim:=λe=>by rw[e] at htl;simp at htl
    rw[htl,if_neg (by simp)] at x4;simp -dsimp -implicitDefEqProofs only[go_sem,cY,da];refine aj.draw mixed rfl ?_;simp -dsimp -implicitDefEqProofs only[go_sem,htl];((with_reducible and_intros);all_goals try first|(refine ⟨?_,?_⟩<;>omega)|exact rfl);refine av hw (by simp[ax,ao,aF]) ?_;simp -dsimp -implicitDefEqProofs only[go_sem];refine aa ho ?_;cases b with
    |true=>
     rw[if_pos rfl] at x4;have lx:=lx ⟨tries+1,stop,[]⟩ (by simp only;omega) rfl;have Jz:=Jz ⟨tries+1,stop,[]⟩ (by simp only;omega) rfl;generalize dQ m t lim d ([]++[k]) ⟨tries+1,stop,[]⟩=F at*;obtain ⟨bb,tr,st,fd⟩:=F;obtain ⟨g1,g2,g3,g4⟩:=Jz;simp only at g1 g2 g3 x4;cases bb with
     |true=>
      rw[if_pos rfl] at x4;subst x4;simp -dsimp -implicitDefEqProofs only[go_sem];refine cX [1000000000] ?_;cases fd with
      |nil=>
       simp -dsimp -implicitDefEqProofs only[go_sem,cQ];refine bY lx ?_;rintro _ _ ⟨rfl,rfl⟩;simp -dsimp -implicitDefEqProofs only[go_sem,cQ];all_goals try exact rfl
      |cons f r=>
       obtain rfl:r=[]:=by cases r with|nil=>rfl|cons=>simp at g3
       simp -dsimp -implicitDefEqProofs only[go_sem,cQ];refine bY lx ?_;rintro _ _ ⟨rfl,rfl⟩;simp -dsimp -implicitDefEqProofs only[go_sem,ub];all_goals try exact rfl
     |false=>
      rw[if_neg (by simp)] at x4;obtain rfl:=g2 rfl;simp -dsimp -implicitDefEqProofs only[go_sem];refine cX [1000000000] ?_;simp -dsimp -implicitDefEqProofs only[go_sem,cQ];refine bY lx ?_;rintro _ _ ⟨rfl,rfl⟩;simp -dsimp -implicitDefEqProofs only[go_sem,cQ];refine av hnx (by simp[ax,ao,aq,aF]) ?_;cases o with
      |some k2=>
       simp -dsimp -implicitDefEqProofs only[go_sem];refine ⟨(i+1,⟨tr,st,[]⟩),⟨by omega,g1,rfl,x4⟩,by simp only;omega,?_⟩;rw[hO];simp -dsimp -implicitDefEqProofs only[go_sem,cY,da,cQ]
      |none=>
       simp -dsimp -implicitDefEqProofs only[go_sem];refine ⟨(i+1,⟨tr,st,[]⟩),⟨by omega,g1,rfl,x4⟩,by simp only;omega,?_⟩;rw[hO];simp -dsimp -implicitDefEqProofs only[go_sem,fP,Option.isSome_none,cQ]
    |false=>
     rw[if_neg (by simp)] at x4;simp -dsimp -implicitDefEqProofs only[go_sem];refine av hnx (by simp[ax,ao,aq,aF]) ?_;cases o with
     |some k2=>
      simp -dsimp -implicitDefEqProofs only[go_sem];refine ⟨(i+1,⟨tries+1,stop,[]⟩),⟨by omega,by simp only;omega,rfl,x4⟩,by simp only;omega,?_⟩;rw[hO];simp -dsimp -implicitDefEqProofs only[go_sem,cY,da,cQ];all_goals try exact rfl
     |none=>
      simp -dsimp -implicitDefEqProofs only[go_sem];refine ⟨(i+1,⟨tries+1,stop,[]⟩),⟨by omega,by simp only;omega,rfl,x4⟩,by simp only;omega,?_⟩;rw[hO];simp -dsimp -implicitDefEqProofs only[go_sem,fP,Option.isSome_none,cQ];all_goals try exact rfl
 have gn:(bx m)[i]? =none:=List.getElem?_eq_none hi;rw[List.drop_of_length_le hi,DX] at x4;subst x4;rw[gn];simp -dsimp -implicitDefEqProofs only[go_sem,fP,Option.isSome_none,cQ];all_goals try exact rfl
def k_ (m:aJ)(t:lL)(lim:Int):Int:=if eX m t=true then (if bA lim 0 4000=true then 0 else 2) else 1
theorem B' (m:aJ)(t:lL)(lim:Int)(h:t.length<=1048576)(h2:∀x∈t,x.length<=1048576):Fn pG 136 [jR m t,eI lim] true (· =eI (k_ m t lim)):=by
 have hs:=vz m t h h2;unfold k_;refine Fn.au 11 [.tmp 4] func136 (hv:=?_);cases hsy:eX m t with
 |false=>
  rw[hsy] at hs;simp -dsimp -implicitDefEqProofs only[go_sem];refine aa hs ?_;simp -dsimp -implicitDefEqProofs only[go_sem]
 |true=>
  rw[hsy] at hs;have hi:=jE lim 0 4000;cases hin:bA lim 0 4000 with
  |false=>
   rw[hin] at hi;simp -dsimp -implicitDefEqProofs only[go_sem];refine aa hs ?_;simp -dsimp -implicitDefEqProofs only[go_sem];refine aa hi ?_;simp -dsimp -implicitDefEqProofs only[go_sem]
  |true=>
   rw[hin] at hi;simp -dsimp -implicitDefEqProofs only[go_sem];refine aa hs ?_;simp -dsimp -implicitDefEqProofs only[go_sem];refine aa hi ?_;simp -dsimp -implicitDefEqProofs only[go_sem]
def fV (z:SS):AV:=match z.found with
 |f::_=>.aX [aQ f,eI z.tries,eI 0]
 | []=>.aX [.val (.slice none 0 0),eI 0,eI (if z.stop=true then 3 else 4)]
theorem I1 (v:Nat)(m:aJ)(t:lL)(lim:Nat)(z:SS)(h1:z.found.length<=1)(h2:∀f∈z.found,f.length<=1000/\∀k∈f,k.length<=1000):
 mc pG 137 [sB v m t lim z] [.ptr 1000000000 v 0 0] (λx io=>x=fV z/\io=[sB v m t lim z]):=by
 refine mc.cT 26 [.tmp 2,.tmp 3,.tmp 4] func137 (hv:=?_);obtain ⟨tries,stop,found⟩:=z;have h00:decide ((0:Int)>0)=false:=rfl;have h10:decide (((1:Nat):Int)>0)=true:=rfl;simp only at h1 h2;cases found with
 |nil=>
  cases stop with
  |true=>
   simp -dsimp -implicitDefEqProofs only[go_sem,cQ,fV,h00];all_goals try exact rfl
  |false=>
   simp -dsimp -implicitDefEqProofs only[go_sem,cQ,fV,h00];all_goals try exact rfl
 |cons f r=>
  obtain rfl:r=[]:=by cases r with|nil=>rfl|cons=>simp at h1
  have ho:=h2 f (dL ..);have hq:=nR f ho.1 (λx hx=>by have:=ho.2 x hx;omega);simp -dsimp -implicitDefEqProofs only[go_sem,ub,h10];refine aj.draw mixed rfl ?_;simp -dsimp -implicitDefEqProofs only[go_sem,ub];((with_reducible and_intros);all_goals try omega);refine aH hq (by simp[ax,ao,aF]) ?_;simp -dsimp -implicitDefEqProofs only[go_sem,ub];((with_reducible and_intros);all_goals try exact rfl)
def lX (m:aJ)(t:lL)(lim:Nat):AV:=if k_ m t lim=0 then fV (dQ m t lim t.length [] ⟨0,false,[]⟩).2 else .aX [.val (.slice none 0 0),eI 0,eI (k_ m t lim)]
theorem Qe {m:aJ}{t:lL}(h:eX m t=true):aU m=true/\Qd t:=by have ⟨h1,h2,h3,h4,h5⟩:=iV h;simp only[eX,uq0] at h;exact ⟨h.1.1,⟨h1,by omega⟩,h5,by omega⟩
theorem Dl (m:aJ)(t:lL)(lim:Nat)(h:t.length<=1048576)(h2:∀x∈t,x.length<=1048576)(te:lim<=4000):Fn pG 96 [jR m t,eI lim] false (· =lX m t lim):=by
 refine Fn.bP 21 [.tmp 4,.tmp 5,.tmp 6] func96 (hv:=?_);have hc:=B' m t lim h h2;unfold lX;cases hz:(k_ m t lim != 0) with
 |true=>
  have hz':k_ m t lim≠0:=by simpa using hz
  rw[if_neg hz'];simp -dsimp -implicitDefEqProofs only[go_sem];refine aa hc ?_;simp -dsimp -implicitDefEqProofs only[go_sem,hz]
 |false=>
  have hz':k_ m t lim=0:=by simpa using hz
  rw [if_pos hz'];have hs:eX m t=true:=by
   cases h:eX m t with
   |true=>rfl
   |false=>rw[k_,h,if_neg (by simp)] at hz';exact absurd hz' (by decide)
  obtain ⟨hm,ht⟩:=Qe hs;have hfr:=λv=>I0 m t lim hm ht te (t.length-1) v ⟨0,false,[]⟩ (by have:=ht.n;omega) (Nat.zero_le _) rfl;have hok:=k9 (m:=m) (t:=t) (lim:=lim) t.length [] ⟨0,false,[]⟩ (λk h=>by cases h) (Nat.zero_le _) rfl;rw[show t.length-1+1=t.length by have:=ht.n;omega] at hfr;have hfi:=λv z h1 h2=>I1 v m t lim z h1 h2;have lz:=aI hm;have htn:=ht.n;generalize dQ m t lim t.length [] ⟨0,false,[]⟩=F at*;obtain ⟨b,z⟩:=F;obtain ⟨g1,g2,g3,g4⟩:=hok;simp only at g1 g2 g3 g4 hfr ⊢;have hfi:=λv=>hfi v z g3 (λf hf=>⟨by have:=(g4 f hf).1;simp at this;omega,λk hk=>by have:=(kq (m:=m) (by omega) ((g4 f hf).2 k hk)).len;omega⟩);simp -dsimp -implicitDefEqProofs only[go_sem];refine aa hc ?_;simp -dsimp -implicitDefEqProofs only[go_sem,hz];have h10:decide ((1:Int)>0)=true:=rfl;refine bJ 900000 21 [.tmp 8] func138 rfl rfl rfl rfl rfl (by exact oT rfl) ?_;simp -dsimp -implicitDefEqProofs only[go_sem,h10];refine cX [14] ?_;obtain ⟨tr,st,fd⟩:=z;simp only at g1 g2 g3 g4;cases fd with
  |nil=>
   simp -dsimp -implicitDefEqProofs only[go_sem];refine bY (hfr _) ?_;rintro _ _ ⟨rfl,rfl⟩;simp -dsimp -implicitDefEqProofs only[go_sem,cQ];refine cX [900014] ?_;simp -dsimp -implicitDefEqProofs only[go_sem];refine bY (hfi _) ?_;rintro _ _ ⟨rfl,rfl⟩;simp -dsimp -implicitDefEqProofs only[go_sem,fV]
  |cons f r=>
   obtain rfl:r=[]:=by cases r with|nil=>rfl|cons=>simp at g3
   simp -dsimp -implicitDefEqProofs only[go_sem];refine bY (hfr _) ?_;rintro _ _ ⟨rfl,rfl⟩;simp -dsimp -implicitDefEqProofs only[go_sem,ub];refine cX [900014] ?_;simp -dsimp -implicitDefEqProofs only[go_sem];refine bY (hfi _) ?_;rintro _ _ ⟨rfl,rfl⟩;simp -dsimp -implicitDefEqProofs only[go_sem,fV]
structure Zk (m:aJ) (t:lL) (s:Src):Prop where
 src:dO s
 lz:aU m=true
 lt:1<=t.length/\t.length<=4
 lr:1<=(t.getD 0 []).length/\(t.getD 0 []).length<=4
 rs:∀i (hi:i<t.length),t[i].length=(t.getD 0 []).length
theorem VP {m:aJ}(h:aU m=true):Ww m:=by
 have ⟨⟨m1,m2⟩,m3,m4⟩:=aI h;have ⟨a1,a2,a3,a4⟩:=kF h;have h5:m.step<=9/\m.least<=9:=by simp only[aU,bA,uq0,decide_eq_true_eq] at h;have:=h.2;split at this<;>omega
 exact ⟨by omega,by omega,by omega,by omega,by omega⟩
structure ZC where
 m:aJ
 t:lL
 ab:lL
 src:Src
structure Zl (z:ZC):Prop where
 src:dO z.src
 lt:z.t.length<=11
 lr:∀x∈z.t,x.length<=13
 lc:z.ab.length<=10
 lk:∀x∈z.ab,x.length<=8
theorem F' (m:aJ)(t:lL)(lim:Nat):(∃(f:lL) (tr:Nat),lX m t lim= .aX [aQ f,eI tr,eI 0]/\f.length<=t.length/\∀k∈f,k∈bx m)\/∃c:Int,(c==0)=false/\lX m t lim= .aX [.val (.slice none 0 0),eI 0,eI c]:=by
 unfold lX;by_cases h:k_ m t lim=0
 . rw [if_pos h];have hok:=k9 (m:=m) (t:=t) (lim:=lim) t.length [] ⟨0,false,[]⟩ (λk h=>by cases h) (Nat.zero_le _) rfl;generalize dQ m t lim t.length [] ⟨0,false,[]⟩=F at*;obtain ⟨b,tr,st,fd⟩:=F;obtain ⟨g1,g2,g3,g4⟩:=hok;simp only at g1 g2 g3 g4 ⊢;cases fd with
   |nil=>exact .inr ⟨if st=true then 3 else 4,by cases st<;>rfl,by cases st<;>rfl⟩
   |cons f r=>
    have:=g4 f (dL ..);exact .inl ⟨f,tr,rfl,by have:=this.1;simp at this;omega,this.2⟩
 rw[if_neg h];exact .inr ⟨_,by simpa using h,rfl⟩
open Go.Lib
theorem py {P:pR}{f:fI}{d:Nat}{xs ts:lA}{m:Mem}{k:AV->Mem->Prop}{post:AV->Prop}(h:Fn P f ts false post)(hl:ax xs)(hk:∀r,post r->k r m){q:Pack k}:eo P f d xs ts m k q:=.inr ⟨false,_,h,λ_=>hl,λr hr=>hk r hr⟩
theorem s7 (xs:lL)(h:xs.length<=9223372036854775807)(h2:∀x∈xs,x.length<=9223372036854775807):Fn pG 22 [aQ xs,aQ xs] true (· =eB true):=by
 refine Fn.au 27 [.tmp 4] func22 (hv:=?_);simp -dsimp -implicitDefEqProofs only[go_sem];refine aj.up [0,1] [13,25] [] xs.length (λ_=>True) (λi=>[(5,eI i)]) (λ_=>[]) trivial ?_ rfl (λi hi _=>?_) (λ_=>?_)
 . simp -dsimp -implicitDefEqProofs only[go_sem]
 . have gx:=get_some hi;have hx:=h2 _ (uq6 hi);generalize xs[i]=x at*;simp -dsimp -implicitDefEqProofs only[go_sem,aE hi];refine aj.draw mixed rfl ?_;simp -dsimp -implicitDefEqProofs only[go_sem,gx];((with_reducible and_intros);all_goals try omega);refine an (F0 x hx) ?_;simp -dsimp -implicitDefEqProofs only[go_sem];((with_reducible and_intros);all_goals try first|(refine ⟨?_,?_⟩<;>omega)|exact rfl)
 simp -dsimp -implicitDefEqProofs only[go_sem,aA]
attribute [go_sem] Option.map_none Nat.sub_zero cE List.size_toArray Mm pZ S9 nE nD
theorem Th (a b:lU):(a==b)=decide (a=b):=by
 by_cases h:a=b
 . simp[h]
 simp[h]
attribute [go_sem] Th
theorem qb {x:Int}(h:0<=x/\x<256):IntKind.u8.wrap x=x:=by simp[IntKind.wrap,IntKind.bits,IntKind.signed];omega
theorem Kj {n:Nat}(h:n<10):decDigits n=[UInt8.ofNat (48+n)]:=decDigits_one h
theorem Qf {n:Nat}(h:¬n<10):decDigits n=decDigits (n / 10)++[UInt8.ofNat (48+n%10)]:=by rw[decDigits,dif_neg h]
theorem zQ {n:Nat}(h:n<18446744073709551616):(decDigits n).length<=20:=by rw[decDigits_length];exact nDigits_le20 n h
theorem Ga:∀(n:Nat),n<=1000000000000000000->Fn pG 65 [eI n] true (· =eS (decDigits n)):=by
 intro n;induction n using Nat.strongRecOn with
 |_ n ih=>
  intro hn;refine Fn.au 20 [.tmp 2] func65 (hv:=?_);simp -dsimp -implicitDefEqProofs only[go_sem];by_cases h:n<10
  . have hd:decide ((n:Int)<10)=true:=dT (by omega);have hw:IntKind.u8.wrap (48+(n:Int))=48+(n:Int):=qb (by omega);have ht:(48+(n:Int)).toNat=48+n:=(by omega);rw [Kj h];simp -dsimp -implicitDefEqProofs only [go_sem,hd,hw,ht];with_reducible and_intros
    all_goals first|omega|(refine ⟨?_,?_⟩<;>omega)|skip
  have hd:decide ((n:Int)<10)=false:=dF (by omega);have hq:(n:Int).tdiv 10=((n / 10:Nat):Int):=by rw[Int.tdiv_eq_ediv_of_nonneg (by omega)];omega
  have hr:(n:Int).tmod 10=((n%10:Nat):Int):=by rw[Int.tmod_eq_emod_of_nonneg (by omega)];omega
  have hw:IntKind.u8.wrap (48+((n%10:Nat):Int))=48+((n%10:Nat):Int):=qb (by omega);have ht:(48+((n%10:Nat):Int)).toNat=48+n%10:=by omega
  have hl:=zQ (n:=n / 10) (by omega);have hc:=ih (n / 10) (by omega) (by omega);rw[Qf h];simp -dsimp -implicitDefEqProofs only[go_sem,hd];refine aj.draw mixed rfl ?_;simp -dsimp -implicitDefEqProofs only[go_sem,hq];with_reducible and_intros
  all_goals try (first|omega|(refine ⟨?_,?_⟩<;>omega)|(simp;done))
  refine an hc ?_;have hz:n%10<10:=Nat.mod_lt _ (by decide);generalize n%10=z at*;simp -dsimp -implicitDefEqProofs only[go_sem,hr,hw,ht];with_reducible and_intros
  all_goals first|omega|(refine ⟨?_,?_⟩<;>omega)|exact rfl|skip
theorem cC (n:Int)(h:0<=n/\n<=1000000000000000000):Fn pG 65 [eI n] true (· =eS (itoa n)):=by have:=Ga n.toNat (by omega);rw[show ((n.toNat:Nat):Int)=n by omega] at this;rw[fh h.1];exact this
theorem la {n:Int}(h:jy n):Fn pG 83 [eI n] true (· =eS (itoa n)):=by refine Fn.au 5 [.tmp 2] func83 (hv:=?_);simp -dsimp -implicitDefEqProofs only[go_sem];refine aa (FZ h) ?_;simp -dsimp -implicitDefEqProofs only[go_sem]
theorem Ti (s:lU):qh s=(me s,yF s&&decide (itoa (me s)=s)):=by unfold qh me yF;cases parseIntB 64 s<;>simp
theorem MK (s:lU):jy (me s):=by
 unfold me;rcases hp:parseIntB 64 s with v|_|_
 . exact vx hp
 . unfold jy;simp
 simp only[intSat];split<;>simp[jy]
theorem Qg (s:lU)(h:s.length<=1048576):Fn pG 69 [eS s] true (· = .aX [eI (qh s).1,eB (qh s).2]):=by
 refine Fn.au 20 [.tmp 2,.tmp 3] func69 (hv:=?_);simp -dsimp -implicitDefEqProofs only[go_sem];refine qP (II s h) ?_;rintro _ ⟨e,rfl,he⟩;rw[Ti];have h64:=MK s;have hl:=bU h64;generalize me s=v at*;rcases ho:yF s with _|_
 . rw[ho] at he;simp only[Bool.false_eq_true,if_false] at he;obtain ⟨t,p,rfl⟩:=he;simp -dsimp -implicitDefEqProofs only[go_sem]
 rw[ho] at he;simp only[if_true] at he;subst he;simp -dsimp -implicitDefEqProofs only[go_sem];refine aa (la h64) ?_;simp -dsimp -implicitDefEqProofs only[go_sem]
theorem iX (c:UInt8):∀(l:lU),∀w∈dm c l,w.length<=l.length
 | [],w,hw=>by simp[dm] at hw;simp[hw]
 |b::l,w,hw=>by
  have ih:=iX c l;rw[dm] at hw;split at hw
  . rcases List.mem_cons.1 hw with rfl|hw
    . simp
    have:=ih w hw;simp;omega
  split at hw
  . rename_i h t he;rcases List.mem_cons.1 hw with rfl|hw
    . have:=ih h (by rw[he];exact dL ..);simp;omega
    have:=ih w (by rw[he];exact List.mem_cons_of_mem _ hw);simp;omega
  simp at hw;simp[hw]
def fq (c:UInt8)(s:lU):Nat->List lU × Nat
 |0=>([],0)
 |i+1=>if i=s.length\/s.getD i 0=c then ((fq c s i).1++[(s.take i).drop (fq c s i).2],i+1) else fq c s i
theorem Qh {α:Type}{s:List α}{i j:Nat}{x:α}(h:s[i]? =some x)(hj:j<=i):s.drop j=(s.take i).drop j++x::s.drop (i+1):=by
 obtain ⟨hlt,he⟩:=List.getElem?_eq_some_iff.1 h;have e:s.take i++x::s.drop (i+1)=s:=by rw[←he,←List.drop_eq_getElem_cons hlt,List.take_append_drop]
 rw[←List.drop_append_of_le_length (by simp;omega),e]
theorem Ca (c:UInt8)(s:lU):∀i,i<=s.length->dm c s=(fq c s i).1++dm c (s.drop (fq c s i).2)/\(fq c s i).2<=i/\c∉(s.take i).drop (fq c s i).2/\(fq c s i).1.length<=i
 |0,_=>by simp[fq]
 |i+1,hi=>by
  obtain ⟨h1,h2,h3,h4⟩:=Ca c s i (by omega);have hlt:i<s.length:=by omega
  have hg:s.getD i 0=s[i]:=by rw[uq4,uq5 hlt];rfl
  rw[fq];by_cases hc:s[i]=c
  . rw [if_pos (.inr (by rw [hg];exact hc))];dsimp only;refine ⟨?_,bw _,?_,by simp;omega⟩
    . rw[List.append_assoc,h1];congr 1;have e:=Qh (s:=s) (i:=i) (j:=(fq c s i).2) (by rw[uq5 hlt,hc]) h2;rw[e,Db _ h3];rfl
    rw[List.drop_eq_nil_of_le (by simp;omega)];exact List.not_mem_nil
  rw [if_neg (by rw [hg];rintro (h|h);· omega
                 exact hc h)]
  refine ⟨h1,by omega,?_,by omega⟩;rw[dh hlt,List.drop_append];intro hm;rcases bk.1 hm with hm|hm
  . exact h3 hm
  have:(s.take i).length=i:=by simp;omega
  rw[this,show (fq c s i).2-i=0 by omega] at hm;simp at hm;exact hc hm.symm
theorem ML (c:UInt8)(s:lU):(fq c s (s.length+1)).1=dm c s:=by obtain ⟨h1,h2,h3,h4⟩:=Ca c s s.length (bw _);rw[fq,if_pos (.inl rfl)];rw[cE] at h3 ⊢;rw[h1,sQ h3]
theorem Gb (c:UInt8)(s:lU):∀i,(fq c s i).1.length<=i/\(fq c s i).2<=i
 |0=>by simp[fq]
 |i+1=>by
  have:=Gb c s i;rw[fq];split
  . simp;omega
  omega
theorem Xn (a b:UInt8):(((a.toNat:Int)==(b.toNat:Int))=true)↔a=b:=by
 rw[beq_iff_eq];constructor
 . intro h;exact UInt8.toNat_inj.1 (by omega)
 intro h;rw[h]
theorem y1 (s:lU)(c:UInt8)(h:s.length<=1048576):Fn pG 56 [eS s,.val (.int .u8 c.toNat)] true (· =nC (dm c s)):=by
 refine Fn.au 36 [.tmp 4] func56 (hv:=?_);simp -dsimp -implicitDefEqProofs only[go_sem];refine aj.up [0,1] [11,17,31,32] [8] (s.length+1) (λ_=>True) (λi=>[(5,.ref 8 0 0 (fq c s i).1.length),(6,eI ((fq c s i).2:Nat)),(7,eI i)]) (λi=>[(8,.row 0 ⟨1,false⟩ true ((fq c s i).1.map eS))]) trivial ?_ rfl (λi hi _=>?_) (λ_=>?_)
 . simp -dsimp -implicitDefEqProofs only[go_sem];simp[fq]
 . have hle:=Gb c s i;have d1:decide ((i:Int)<=(s.length:Int))=true:=dT (by omega);have hst:fq c s (i+1)=if i=s.length\/s.getD i 0=c then ((fq c s i).1++[(s.take i).drop (fq c s i).2],i+1) else fq c s i:=rfl
   rw[hst];clear hst;generalize fq c s i=q at*;obtain ⟨out,fr⟩:=q;dsimp only at hle ⊢;rcases he:((i:Int)==(s.length:Int)) with _|_
   . have hne:i≠s.length:=(by intro e;subst e;simp at he);have hlt:i<s.length:=(by omega);have hg:s.getD i 0=s[i]:=(by rw [uq4,uq5 hlt];rfl);have hu:=Xn s[i] c;rw [hg];generalize s[i]=b at*;rcases hb:((b.toNat:Int)==(c.toNat:Int)) with _|_
     . have hbc:b≠c:=λe=>by rw [hu.2 e] at hb;cases hb
       rw [if_neg (by rintro (w|w);· exact hne w
                      exact hbc w)]
       simp -dsimp -implicitDefEqProofs only[go_sem,d1,he,hg,hb];with_reducible and_intros
       all_goals (first|omega|(refine ⟨?_,?_⟩<;>omega)|exact rfl|skip)
     rw[if_pos (.inr (hu.1 hb))];simp -dsimp -implicitDefEqProofs only[go_sem,d1,he,hg,hb];with_reducible and_intros
     all_goals try (first|omega|(refine ⟨?_,?_⟩<;>omega))
     all_goals first|(simp;done)|skip
   have hq:i=s.length:=(by have:=beq_iff_eq.1 he;omega);rw[if_pos (.inl hq)];simp -dsimp -implicitDefEqProofs only[go_sem,d1,he];with_reducible and_intros
   all_goals try (first|omega|(refine ⟨?_,?_⟩<;>omega))
   all_goals first|(simp;done)|skip
 have d1:decide (((s.length+1:Nat):Int)<=(s.length:Int))=false:=dF (by omega);rw[ML];simp -dsimp -implicitDefEqProofs only[go_sem,d1];all_goals first|(simp;done)|skip
theorem I2 (b:UInt8):(decide (48<=b.toNat)&&decide (b.toNat<=57))=(!(decide ((b.toNat:Int)<48)||decide ((b.toNat:Int)>57))):=by
 by_cases h1:48<=b.toNat
 . by_cases h2:b.toNat<=57
   . rw[decide_eq_true h1,decide_eq_true h2,decide_eq_false (by omega),decide_eq_false (by omega)];rfl
   rw[decide_eq_true h1,decide_eq_false h2,decide_eq_false (by omega),decide_eq_true (by omega)];rfl
 rw[decide_eq_false h1,decide_eq_true (show (b.toNat:Int)<48 by omega)];rfl
abbrev dR (b:UInt8):Bool:=decide (48<=b.toNat)&&decide (b.toNat<=57)
theorem Kk {n:Nat}(h:n<=13):10^n<=10000000000000:=by have:=di (show 0<10 by decide) h;exact this
theorem I3 (s:lU)(h:s.length<=1048576):Fn pG 71 [eS s] true (· = .aX [eI (dW s).1,eB (dW s).2]):=by
 refine Fn.au 43 [.tmp 2,.tmp 3] func71 (hv:=?_);unfold dW;rcases h1:decide ((s.length:Int)<1) with _|_
 . rcases h13:decide ((s.length:Int)>13) with _|_
   . have g1:=of_decide_eq_false h1;have g2:=of_decide_eq_false h13;rw [if_neg (by omega)];have hv:∀i,i<=s.length->((s.take i).all dR)=true->jQ 0 (s.take i)<=10000000000000:=by
      intro i hi cP;have h3:=sP (s.take i) 0 (λc hc=>by have:=uq1.1 cP c hc;simpa [dR] using this);have h4:=Kk (n:=(s.take i).length) (by simp;omega);rw[Nat.zero_add,Nat.one_mul] at h3;omega
     simp -dsimp -implicitDefEqProofs only[go_sem,h1,h13];refine aj.up [0] [16] [] s.length (λi=>((s.take i).all dR)=true) (λi=>[(4,eI ((jQ 0 (s.take i):Nat):Int)),(5,eI i)]) (λ_=>[]) rfl ?_ rfl (λi hi hI=>?_) (λhI=>?_)
     . simp -dsimp -implicitDefEqProofs only[go_sem];exact rfl
     . have hb:=(s[i]).toNat_lt;have hg:(s.getD i 0)=s[i]:=(by rw [uq4,uq5 hi];rfl);have cP:=dA dR s i hi;have hno:=λh=>gQ (p:=dR) hi h;have hdv:jQ 0 (s.take (i+1))=jQ 0 (s.take i)*10+((s[i]).toNat-48):=(by rw [dh hi,FT];rfl);have hv1:=hv i (by omega) hI;have hd:=I2 s[i];rw [hdv];clear hdv hv;generalize s[i]=b at*;generalize jQ 0 (s.take i)=z at*;rcases d1:decide ((b.toNat:Int)<48) with _|_
       . rcases d2:decide ((b.toNat:Int)>57) with _|_
         . have e1:=of_decide_eq_false d1;have e2:=of_decide_eq_false d2;have hw:IntKind.u8.wrap ((b.toNat:Int)-48)=(b.toNat:Int)-48:=qb (by omega);simp -dsimp -implicitDefEqProofs only [go_sem,aE hi,hg,d1,d2,hw];with_reducible and_intros
           all_goals first|omega|(refine ⟨?_,?_⟩<;>omega)|(rw[cP,hI];show dR b=true;rw[dR,hd,d1,d2];rfl)|(simp;omega)|(simp;done)|skip
         have hz:=hno (by rw[dR,hd,d1,d2];rfl);rw[if_neg (by rw[show (s.all λc=>decide (48<=c.toNat)&&decide (c.toNat<=57))=s.all dR from rfl,hz];decide)];simp -dsimp -implicitDefEqProofs only[go_sem,aE hi,hg,d1,d2];with_reducible and_intros
         all_goals (first|omega|skip)
       have hz:=hno (by rw[dR,hd,d1];rfl);rw[if_neg (by rw[show (s.all λc=>decide (48<=c.toNat)&&decide (c.toNat<=57))=s.all dR from rfl,hz];decide)];simp -dsimp -implicitDefEqProofs only[go_sem,aE hi,hg,d1];with_reducible and_intros
       all_goals (first|omega|skip)
     rw[cE] at hI;have hv1:=hv s.length (bw _) (by rw[cE];exact hI);rw[cE] at hv1;rw[if_pos (show (s.all λc=>decide (48<=c.toNat)&&decide (c.toNat<=57))=true from hI),cE];have hcd:=Ga (jQ 0 s) (by omega);generalize jQ 0 s=z at*;simp -dsimp -implicitDefEqProofs only[go_sem,aA];refine aa hcd ?_;simp -dsimp -implicitDefEqProofs only[go_sem]
   have g1:=oT h13;rw[if_pos (by omega)];simp -dsimp -implicitDefEqProofs only[go_sem,h1,h13]
 have g1:=oT h1;rw[if_pos (by omega)];simp -dsimp -implicitDefEqProofs only[go_sem,h1]
end Go.Vc
