import Derived.WalkKit
import Derived.OwnWalkIn
import Derived.TacticsInMore
import Derived.RegionIn
import Derived.LoopNIn
import Derived.LoopIn
import Derived.Shelf.Abstract
import Derived.Test.YtofpaabacebkkaaGreatDoorPkLawDeskAfterE
open Go.Proofs.Tryz
open Go.Proofs.Tryz renaming prog → pG
set_option linter.unusedVariables false
set_option linter.unusedSimpArgs false
set_option linter.unnecessarySimpa false
set_option maxRecDepth 1000000
set_option maxHeartbeats 16000000
open Bool renaming and_eq_true->uq0,false_and->uq1,false_eq_true->uq2,true_and->uq3
open List renaming all_eq_true->uq4,drop_succ_cons->uq5,drop_zero->uq6,getD_eq_getElem?_getD->uq7,getElem?_eq_getElem->uq8,getElem_mem->uq9,length_append->dD,length_cons->bW,length_map->cr,length_nil->bQ,length_range->bB,map->bk,map_append->bR,map_cons->cK,map_nil->cP,map_singleton->hZ,mem_of_mem_take->jd,range->cf,replicate->cH,take->cL,take_length->aY,take_of_length_le->bg,take_succ_cons->bj,take_succ_eq_append_getElem->aP,take_zero->fW
open Nat renaming le_refl->gB,not_lt_zero->fu,reduceAdd->bx,reduceBEq->bC,reduceDiv->bD,reduceEqDiff->aT
open Option renaming isNone_none->G8,isNone_some->G9,toList_none->DK,toList_some->DL
namespace Go.Vc
open Go.Proofs Go.Lib
def iZ:lU:=[102,97,108,115,101]
def e6:lU:=[103,104,111,115,116,115]
def eu:lU:=[119,111,114,115,116]
def fS:lU:=[99,111,117,110,116]
def dr:lU:=[119,97,102,101,114,115]
def iH:lU:=[100,114,111,112]
def gY:lU:=[102,105,110,100]
def jk:lU:=[108,111,99,107]
def dZ:lU:=[115,116,97,109,112]
def gU:lU:=[109,97,107,101,114]
def dv:lU:=[111,112,101,110,115]
def k9:lU:=[107,101,121]
def cJ (w:lU):Int:=
 if w=iZ then 0 else if w=e6 then 0 else if w=eu then 0 else if w=fS then 0 else if w=dr then 0
 else if w=iH then 1 else if w=gY then 1 else if w=jk then 1
 else if w=dZ then 2 else if w=gU then 5 else if w=dv then 11 else if w=k9 then 12 else -1
def Qq (w:lU):Int:=if cJ w<0 then 0 else (cJ w).tmod 10+1
theorem Ge (w:lU):cJ w= -1\/cJ w=0\/cJ w=1\/cJ w=2\/cJ w=5\/(cJ w=11/\w=dv)\/(cJ w=12/\w=k9):=by
 unfold cJ;rcases Classical.em (w=iZ) with h|h
 . simp only [if_pos h];simp [h]
 simp only [if_neg h];clear h;rcases Classical.em (w=e6) with h|h
 . simp only [if_pos h];simp [h]
 simp only [if_neg h];clear h;rcases Classical.em (w=eu) with h|h
 . simp only [if_pos h];simp [h]
 simp only [if_neg h];clear h;rcases Classical.em (w=fS) with h|h
 . simp only [if_pos h];simp [h]
 simp only [if_neg h];clear h;rcases Classical.em (w=dr) with h|h
 . simp only [if_pos h];simp [h]
 simp only [if_neg h];clear h;rcases Classical.em (w=iH) with h|h
 . simp only [if_pos h];simp [h]
 simp only [if_neg h];clear h;rcases Classical.em (w=gY) with h|h
 . simp only [if_pos h];simp [h]
 simp only [if_neg h];clear h;rcases Classical.em (w=jk) with h|h
 . simp only [if_pos h];simp [h]
 simp only [if_neg h];clear h;rcases Classical.em (w=dZ) with h|h
 . simp only [if_pos h];simp [h]
 simp only [if_neg h];clear h;rcases Classical.em (w=gU) with h|h
 . simp only [if_pos h];simp [h]
 simp only [if_neg h];clear h;rcases Classical.em (w=dv) with h|h
 . simp only [if_pos h];simp [h]
 simp only [if_neg h];clear h;rcases Classical.em (w=k9) with h|h
 . simp only [if_pos h];simp [h]
 simp only [if_neg h];clear h;simp
theorem Gf:cJ dv=11:=by decide
theorem MX:cJ k9=12:=by decide
def ft (s:lU):List lU × lI × Bool:=
 if cJ ((dq 32 s).headD [])<0\/((dq 32 s).length:Int)≠(cJ ((dq 32 s).headD [])).tmod 10+1 then ([],[],false)
 else if 10<=cJ ((dq 32 s).headD []) then (dq 32 s,[],true)
 else if (((dq 32 s).drop 1).all fun w=>(dW w).2)=true then (dq 32 s,((dq 32 s).drop 1).map fun w=>(dW w).1,true)
 else ([],[],false)
theorem tM (w:lU):((pW w).2=true/\0<=(pW w).1/\w.length<=13)↔(dW w).2=true:=by
 constructor
 . rintro ⟨h1,h2,h3⟩;obtain ⟨q1,q2⟩:=BJ h1;have hw:w=decDigits (pW w).1.toNat:=by rw [←ff h2];exact q2
   have:nDigits (pW w).1.toNat<=13:=by have e:=congrArg List.length hw;rw [decDigits_length] at e;omega
   rw [hw,P2 this]
 intro h;obtain ⟨h1,h2⟩:=tv h;have hl:w.length<=13:=by
  unfold dW at h;split at h
  . cases h
  omega
 have h64:kx (dW w).1:=by
  have hd:∀c∈w,48<=c.toNat/\c.toNat<=57:=by intro c hc;rw [ff h1] at h2;exact pK _ c (by rw [←h2];exact hc)
  have hb:=su w 0 hd;have hp:10^w.length<=10000000000000:=Ko hl;have hv:(dW w).1=(jQ 0 w:Nat):=by
   unfold dW at h ⊢;split
   . rename_i hc;rw [if_pos hc] at h;cases h
   rename_i hc;rw [if_neg hc] at h;split
   . rfl
   rename_i hd2;rw [if_neg hd2] at h;cases h
  rw [hv];unfold kx;omega
 have e:=Mu h64;rw [←h2] at e;rw [e];exact ⟨rfl,h1,hl⟩
theorem Dl {w:lU} (h:(dW w).2=true):(pW w).1=(dW w).1:=by
 obtain ⟨h1,h2,h3⟩:=(tM w).2 h;obtain ⟨q1,q2⟩:=BJ h1;obtain ⟨v1,v2⟩:=tv h;have h64:kx (dW w).1:=by
  have hd:∀c∈w,48<=c.toNat/\c.toNat<=57:=by intro c hc;rw [ff v1] at v2;exact pK _ c (by rw [←v2];exact hc)
  have hb:=su w 0 hd;have hp:10^w.length<=10000000000000:=Ko h3;have hv:(dW w).1=(jQ 0 w:Nat):=by
   unfold dW at h ⊢;split
   . rename_i hc;rw [if_pos hc] at h;cases h
   rename_i hc;rw [if_neg hc] at h;split
   . rfl
   rename_i hd2;rw [if_neg hd2] at h;cases h
  rw [hv];unfold kx;omega
 exact P1 q1 h64 (q2.symm.trans v2)
theorem MY (w:lU):Fn pG 70 [eS w] true (· =eI (cJ w)):=by
 refine Fn.av 22 [.tmp 2] func70 (hv:= ?_);unfold cJ iZ e6 eu fS dr iH gY jk dZ gU dv k9;simp -dsimp -implicitDefEqProofs only [go_sem];repeat' (refine Br.intro (fun _=> ?_) (fun _=> ?_)<;>try simp -dsimp -implicitDefEqProofs only [go_sem, *])
 all_goals first
  |(simp only [decide_eq_true_eq,decide_eq_false_iff_not] at*;subst_vars;simp;done)
  |(simp only [decide_eq_false_iff_not] at*;simp [*];done)
  |skip
theorem Gg (w:lU):Fn pG 68 [eS w] true (· =eI (Qq w)):=by
 refine Fn.av 20 [.tmp 2] func68 (hv:= ?_)
 have hk:Qq w=if w=iZ then 1 else if w=e6 then 1 else if w=eu then 1 else if w=fS then 1 else if w=dr then 1
  else if w=iH then 2 else if w=gY then 2 else if w=jk then 2
  else if w=dv then 2 else if w=k9 then 3 else if w=dZ then 3 else if w=gU then 6 else 0:=by
  unfold Qq cJ;rcases Classical.em (w=iZ) with h|h
  . subst h;decide
  simp only [if_neg h];clear h;rcases Classical.em (w=e6) with h|h
  . subst h;decide
  simp only [if_neg h];clear h;rcases Classical.em (w=eu) with h|h
  . subst h;decide
  simp only [if_neg h];clear h;rcases Classical.em (w=fS) with h|h
  . subst h;decide
  simp only [if_neg h];clear h;rcases Classical.em (w=dr) with h|h
  . subst h;decide
  simp only [if_neg h];clear h;rcases Classical.em (w=iH) with h|h
  . subst h;decide
  simp only [if_neg h];clear h;rcases Classical.em (w=gY) with h|h
  . subst h;decide
  simp only [if_neg h];clear h;rcases Classical.em (w=jk) with h|h
  . subst h;decide
  simp only [if_neg h];clear h;rcases Classical.em (w=dZ) with h|h
  . subst h;decide
  simp only [if_neg h];clear h;rcases Classical.em (w=gU) with h|h
  . subst h;decide
  simp only [if_neg h];clear h;rcases Classical.em (w=dv) with h|h
  . subst h;decide
  simp only [if_neg h];clear h;rcases Classical.em (w=k9) with h|h
  . subst h;decide
  simp only [if_neg h];clear h;decide
 rw [hk];clear hk;unfold iZ e6 eu fS dr iH gY jk dZ gU dv k9;simp -dsimp -implicitDefEqProofs only [go_sem];repeat' (refine Br.intro (fun _=> ?_) (fun _=> ?_)<;>try simp -dsimp -implicitDefEqProofs only [go_sem, *])
 all_goals first
  |(simp only [decide_eq_true_eq,decide_eq_false_iff_not] at*;subst_vars;simp;done)
  |(simp only [decide_eq_false_iff_not] at*;simp [*];done)
  |skip
theorem Gh {s:lU}:(dq 32 s)[0]? =some ((dq 32 s).headD []):=by
 have h:=tx 32 s;cases hs:dq 32 s with
 |nil=>exact absurd hs h
 |cons x r=>rfl
set_option maxHeartbeats 2000000 in
theorem I2 (s:lU) (hs:s.length<=1048576):Fn pG 44 [eS s] true (· = .aZ [nC (ft s).1,aM (ft s).2.1,eB (ft s).2.2]):=by
 refine Fn.av 54 [.tmp 2,.tmp 3,.tmp 4] func44 (hv:= ?_);have hpl:=iY 32 s;have hsl:=jG 32 s;have g0:=Gh (s:=s);have hne:=tx 32 s
 have hP:ft s=if cJ ((dq 32 s).headD [])<0\/((dq 32 s).length:Int)≠(cJ ((dq 32 s).headD [])).tmod 10+1 then ([],[],false)
  else if 10<=cJ ((dq 32 s).headD []) then (dq 32 s,[],true)
  else if (((dq 32 s).drop 1).all fun w=>(dW w).2)=true then (dq 32 s,((dq 32 s).drop 1).map fun w=>(dW w).1,true)
  else ([],[],false):=rfl
 rw [hP];clear hP;have hki:=Ge ((dq 32 s).headD []);have hck:=MY ((dq 32 s).headD []);simp -dsimp -implicitDefEqProofs only [go_sem];refine ab (yM s 32 (by omega)) ?_;generalize dq 32 s=ws at*
 have h1:1<=ws.length:=by cases ws with
  |nil=>exact absurd rfl hne
  |cons x r=>simp
 generalize ws.headD []=w0 at*;generalize cJ w0=k at*;have hk2: -1<=k/\k<=12:=by omega
 have hkt:kx (k.tmod 10)/\kx (k.tmod 10+1):=by have h1:=Int.tmod_lt_of_pos k (show (0:Int)<10 by decide);rcases hki with rfl|rfl|rfl|rfl|rfl|⟨rfl,_⟩|⟨rfl,_⟩<;>(unfold kx;decide)
 simp -dsimp -implicitDefEqProofs only [go_sem,g0];((with_reducible and_intros);all_goals try (omega));refine ab hck ?_;rcases hk0:decide (k<0) with _|_
 rotate_left
 . rw [if_pos (.inl (oT hk0))];simp -dsimp -implicitDefEqProofs only [go_sem,hk0]
 have Zl:=of_decide_eq_false hk0;rcases hlen:((ws.length:Int) != k.tmod 10+1) with _|_
 rotate_left
 . rw [if_pos (.inr (by simpa using hlen))];simp -dsimp -implicitDefEqProofs only [go_sem,hk0,hlen];((with_reducible and_intros);all_goals try (omega));all_goals first|exact hkt.2|(first|omega|(refine ⟨?_,?_⟩<;>omega)|exact rfl|(simp;done)|skip)
 rw [if_neg (by rintro (q|q);· exact Zl q
                exact q (by simpa using hlen))]
 rcases h10:decide (k<10) with _|_
 . have NA:=of_decide_eq_false h10;rw [if_pos (by omega)];have hl2:(ws.length:Int)≥2:=by
    have e:(ws.length:Int)=k.tmod 10+1:=by simpa using hlen
    rcases hki with rfl|rfl|rfl|rfl|rfl|⟨rfl,_⟩|⟨rfl,_⟩<;>simp at* <;>omega
   have d1:decide ((1:Int)<ws.length)=true:=dT (by omega);simp -dsimp -implicitDefEqProofs only [go_sem,hk0,hlen];((with_reducible and_intros);all_goals try (omega));all_goals first|exact hkt.2|skip
   refine ak.up [5,6] [30,43,50,51] [27] 0 (fun _=>True) (fun i=>[(7,.ref 27 0 0 0),(8,eI 1)]) (fun i=>[(27,.row 0 ⟨1,false⟩ true [])]) trivial ?_ rfl (fun i hi _=>absurd hi (fu _)) (fun _=> ?_)
   . simp -dsimp -implicitDefEqProofs only [go_sem]
   simp -dsimp -implicitDefEqProofs only [pz,bC,bD,bx,↓reduceIte,aT];simp -dsimp -implicitDefEqProofs only [go_sem,d1,h10];((with_reducible and_intros);all_goals try (exact rfl));all_goals (first|(simp;done)|skip)
 have NA:=oT h10;rw [if_neg (by omega)];simp -dsimp -implicitDefEqProofs only [go_sem,hk0,hlen];((with_reducible and_intros);all_goals try (omega));all_goals first|exact hkt.2|skip
 refine ak.up [5,6] [30,43,50,51] [27] (ws.length-1) (fun i=>(((ws.drop 1).take i).all fun w=>(dW w).2)=true) (fun i=>[(7,.ref 27 0 0 i),(8,eI ((i:Int)+1))]) (fun i=>[(27,.row 0 ⟨1,false⟩ true ((((ws.drop 1).take i).map fun w=>(dW w).1).map eI))]) rfl ?_ rfl (fun i hi hI=> ?_) (fun hI=> ?_)
 . simp -dsimp -implicitDefEqProofs only [go_sem];all_goals exact rfl
 . have hi1:i+1<ws.length:=by omega
   have hid:i<(ws.drop 1).length:=by simp;omega
   have gi:ws[i+1]? =some (ws.drop 1)[i]:=by rw [List.getElem_drop,←uq8,Nat.add_comm 1 i]
   have hw:=hpl _ (List.mem_of_getElem? gi);have dl:decide ((i:Int)+1<ws.length)=true:=dT (by omega);have ht:((i:Int)+1).toNat=i+1:=by omega
   have cX:=dy (fun w=>(dW w).2) (ws.drop 1) i hid;have hno:=fun h=>gQ (p:=fun w=>(dW w).2) hid h;have htk:(ws.drop 1).take (i+1)=(ws.drop 1).take i++[(ws.drop 1)[i]]:=aP hid;have hol:(((ws.drop 1).take i).map fun w=>(dW w).1).length=i:=by simp;omega
   rw [htk] at cX ⊢;rw [bR,hZ];clear htk;generalize (ws.drop 1)[i]=w at*;have hcv:=IZ w (by omega);generalize dW w=v at*;generalize ((ws.drop 1).take i).map (fun w=>(dW w).1)=q at*;rcases hv:v.2 with _|_
   . have hz:=hno hv;rw [if_neg (by rw [hz];decide)];simp -dsimp -implicitDefEqProofs only [pz,bC,bD,bx,↓reduceIte,aT];simp -dsimp -implicitDefEqProofs only [go_sem,dl,h10,ht,gi];((with_reducible and_intros);all_goals try (omega));refine ab hcv ?_;simp -dsimp -implicitDefEqProofs only [go_sem,hv]
   simp -dsimp -implicitDefEqProofs only [pz,bC,bD,bx,↓reduceIte,aT];simp -dsimp -implicitDefEqProofs only [go_sem,dl,h10,ht,gi];((with_reducible and_intros);all_goals try (omega));refine ab hcv ?_;simp -dsimp -implicitDefEqProofs only [go_sem,hv];((with_reducible and_intros);all_goals try first|omega|(refine ⟨?_,?_⟩<;>omega)|exact rfl);all_goals first|(rw [cX,hI,hv];rfl)|(rw [←hol,nB];simp;done)|skip
 have dl:decide (((ws.length-1:Nat):Int)+1<ws.length)=false:=dF (by omega);have hdl:(ws.drop 1).take (ws.length-1)=ws.drop 1:=bg (by simp);rw [hdl] at hI ⊢;rw [if_pos hI];have hol:((ws.drop 1).map fun w=>(dW w).1).length=ws.length-1:=by simp
 generalize (ws.drop 1).map (fun w=>(dW w).1)=q at*;rw [←hol] at dl ⊢;simp -dsimp -implicitDefEqProofs only [pz,bC,bD,bx,↓reduceIte,aT];simp -dsimp -implicitDefEqProofs only [go_sem,dl];((with_reducible and_intros));all_goals (first|(simp;done)|skip)
theorem Qr {w:lU} (h:10<=cJ w):w=k9\/w=dv:=by
 rcases Ge w with q|q|q|q|q|⟨q,e⟩|⟨q,e⟩
 all_goals first|omega|exact .inr e|exact .inl e
theorem MZ {w:lU} (h:cJ w<10):w≠k9/\w≠dv:=by
 refine ⟨?_,?_⟩
 . rintro rfl;rw [MX] at h;omega
 rintro rfl;rw [Gf] at h;omega
set_option maxHeartbeats 2000000 in
theorem I3 (s:lU) (hs:s.length<=1048576):Fn pG 43 [eS s] true (· = .aZ [nC (ft s).1,aM (ft s).2.1,eB (ft s).2.2]):=by
 refine Fn.av 62 [.tmp 2,.tmp 3,.tmp 4] func43 (hv:= ?_);have hpl:=iY 32 s;have hsl:=jG 32 s;have g0:=Gh (s:=s);have hne:=tx 32 s
 have hP:ft s=if cJ ((dq 32 s).headD [])<0\/((dq 32 s).length:Int)≠(cJ ((dq 32 s).headD [])).tmod 10+1 then ([],[],false)
  else if 10<=cJ ((dq 32 s).headD []) then (dq 32 s,[],true)
  else if (((dq 32 s).drop 1).all fun w=>(dW w).2)=true then (dq 32 s,((dq 32 s).drop 1).map fun w=>(dW w).1,true)
  else ([],[],false):=rfl
 rw [hP];clear hP;have hck:=Gg ((dq 32 s).headD []);have hkk:=fun h=>Qr (w:=(dq 32 s).headD []) h;have hkn:=fun h=>MZ (w:=(dq 32 s).headD []) h;have hcn:Qq ((dq 32 s).headD [])=if cJ ((dq 32 s).headD [])<0 then 0 else (cJ ((dq 32 s).headD [])).tmod 10+1:=rfl
 simp -dsimp -implicitDefEqProofs only [go_sem];refine ab (Kj s 32 (by omega)) ?_;generalize dq 32 s=ws at*
 have h1:1<=ws.length:=by cases ws with
  |nil=>exact absurd rfl hne
  |cons x r=>simp
 generalize ws.headD []=w0 at*;generalize cJ w0=k at*;generalize Qq w0=n at*;simp -dsimp -implicitDefEqProofs only [go_sem,g0];((with_reducible and_intros);all_goals try (omega));refine ab hck ?_;rcases hlen:((ws.length:Int) != n) with _|_
 rotate_left
 . have hl':(ws.length:Int)≠n:=by simpa using hlen
   rw [if_pos (by
    by_cases h0:k<0
    . exact .inl h0
    rw [if_neg h0] at hcn
    exact .inr (by rw [←hcn];exact hl'))]
   simp -dsimp -implicitDefEqProofs only [go_sem,hlen]
 have hl':(ws.length:Int)=n:=by simpa using hlen
 have hk0:¬k<0:=by intro h0;rw [if_pos h0] at hcn;omega
 rw [if_neg hk0] at hcn
 rw [if_neg (by rintro (q|q);· exact hk0 q
                exact q (by rw [←hcn];exact hl'))]
 unfold k9 dv at hkk hkn;rcases h10:decide (10<=k) with _|_
 . have NA:=of_decide_eq_false h10;obtain ⟨q1,q2⟩:=hkn (by omega);have d1:decide (w0=[107,101,121])=false:=dF q1;have d2:decide (w0=[111,112,101,110,115])=false:=dF q2;have lB:(1:Int).toNat=1:=rfl;rw [if_neg NA];clear hkk hkn hck hcn;simp -dsimp -implicitDefEqProofs only [go_sem,hlen,g0,d1,d2];((with_reducible and_intros);all_goals try (omega));refine ak.up [5,33,34] [41,52,57,58] [13] (ws.length-1) (fun i=>(((ws.drop 1).take i).all fun w=>(dW w).2)=true) (fun i=>[(6,.ref 13 0 0 i),(35,eI i)]) (fun i=>[(13,.row 0 ⟨1,false⟩ true ((((ws.drop 1).take i).map fun w=>(dW w).1).map eI))]) rfl ?_ rfl (fun i hi hI=> ?_) (fun hI=> ?_)
   . simp -dsimp -implicitDefEqProofs only [go_sem]
   . have hi1:i+1<ws.length:=by omega
     have hid:i<(ws.drop 1).length:=by simp;omega
     have gi:ws[1+i]? =some (ws.drop 1)[i]:=by rw [List.getElem_drop,←uq8]
     have hw:=hpl _ (List.mem_of_getElem? gi);have dl:=aG hi;have cX:=dy (fun w=>(dW w).2) (ws.drop 1) i hid;have hno:=fun h=>gQ (p:=fun w=>(dW w).2) hid h;have htk:(ws.drop 1).take (i+1)=(ws.drop 1).take i++[(ws.drop 1)[i]]:=aP hid;have hol:(((ws.drop 1).take i).map fun w=>(dW w).1).length=i:=by simp;omega
     rw [htk] at cX ⊢;rw [bR,hZ];clear htk;generalize (ws.drop 1)[i]=w at*;have hcv:=Qm w (by omega);have TL:=tM w;have heq:=fun h=>Dl (w:=w) h;generalize ((ws.drop 1).take i).map (fun w=>(dW w).1)=q at*;generalize dW w=v at*;generalize pW w=u at*;rcases hu:u.2 with _|_
     . have hv:v.2=false:=by
        cases hv2:v.2 with
        |false=>rfl
        |true=>have:=(TL.2 hv2).1;rw [hu] at this;cases this
       have hz:=hno hv;rw [if_neg (by rw [hz];decide)];simp -dsimp -implicitDefEqProofs only [pz,bC,bD,bx,↓reduceIte,aT];simp -dsimp -implicitDefEqProofs only [go_sem,dl,gi];((with_reducible and_intros);all_goals try (omega));refine ab hcv ?_;simp -dsimp -implicitDefEqProofs only [go_sem,hu]
     rcases hn0:decide (u.1<0) with _|_
     rotate_left
     . have ZZ:=oT hn0;have hv:v.2=false:=by
        cases hv2:v.2 with
        |false=>rfl
        |true=>have:=(TL.2 hv2).2.1;omega
       have hz:=hno hv;rw [if_neg (by rw [hz];decide)];simp -dsimp -implicitDefEqProofs only [pz,bC,bD,bx,↓reduceIte,aT];simp -dsimp -implicitDefEqProofs only [go_sem,dl,gi];((with_reducible and_intros);all_goals try (omega));refine ab hcv ?_;simp -dsimp -implicitDefEqProofs only [go_sem,hu,hn0]
     rcases TM:decide ((w.length:Int)>13) with _|_
     rotate_left
     . have ZB:=oT TM;have hv:v.2=false:=by
        cases hv2:v.2 with
        |false=>rfl
        |true=>have:=(TL.2 hv2).2.2;omega
       have hz:=hno hv;rw [if_neg (by rw [hz];decide)];simp -dsimp -implicitDefEqProofs only [pz,bC,bD,bx,↓reduceIte,aT];simp -dsimp -implicitDefEqProofs only [go_sem,dl,gi];((with_reducible and_intros);all_goals try (omega));refine ab hcv ?_;simp -dsimp -implicitDefEqProofs only [go_sem,hu,hn0,TM]
     have hv:v.2=true:=TL.1 ⟨hu,by have:=of_decide_eq_false hn0;omega,by have:=of_decide_eq_false TM;omega⟩;have huv:=heq hv;rw [←huv];simp -dsimp -implicitDefEqProofs only [pz,bC,bD,bx,↓reduceIte,aT];simp -dsimp -implicitDefEqProofs only [go_sem,dl,gi];((with_reducible and_intros);all_goals try (omega));refine ab hcv ?_;simp -dsimp -implicitDefEqProofs only [go_sem,hu,hn0,TM];((with_reducible and_intros);all_goals try first|omega|(refine ⟨?_,?_⟩<;>omega)|exact rfl);all_goals first|(rw [cX,hI,hv];rfl)|(rw [←hol,nB];simp;done)|skip
   have hdl:(ws.drop 1).take (ws.length-1)=ws.drop 1:=bg (by simp);rw [hdl] at hI ⊢;rw [if_pos hI];have hol:((ws.drop 1).map fun w=>(dW w).1).length=ws.length-1:=by simp
   generalize (ws.drop 1).map (fun w=>(dW w).1)=q at*;rw [←hol];simp -dsimp -implicitDefEqProofs only [pz,bC,bD,bx,↓reduceIte,aT];simp -dsimp -implicitDefEqProofs only [go_sem,aC];((with_reducible and_intros));all_goals first|(simp;done)|(first|omega|(refine ⟨?_,?_⟩<;>omega)|exact rfl|(simp;done)|skip)
 have NA:=oT h10;rw [if_pos NA];rcases hkk NA with q1|q1
 . have d1:decide (w0=[107,101,121])=true:=dT q1;simp -dsimp -implicitDefEqProofs only [go_sem,hlen,g0,d1];((with_reducible and_intros);all_goals try (omega));all_goals (first|(simp;done)|skip)
 have d1:decide (w0=[107,101,121])=false:=dF (by rw [q1];decide);have d2:decide (w0=[111,112,101,110,115])=true:=dT q1;simp -dsimp -implicitDefEqProofs only [go_sem,hlen,g0,d1,d2];((with_reducible and_intros);all_goals try (omega));all_goals (first|(simp;done)|skip)
attribute [go_sem] Option.map_none Nat.sub_zero
abbrev eY (b:UInt8):AV:=.val (.int .u8 b.toNat)
abbrev ZP (bs:lU):AV:=.arr ⟨1,false⟩ (bs.map eY)
structure Src where
 V2:Int
 pos:Nat
def Qs (s:Src):Prop:=0<=s.V2/\s.V2<2147483647
abbrev WW (v:Nat) (bs:lU) (s:Src):bh:=.box v [ZP bs,eI s.pos,eI s.V2]
theorem tN (xs:List lU) (sep:lU) (n:Nat) (h:∀x∈xs,x.length<=n):(Lib.join xs sep).length<=xs.length*(n+sep.length):=by
 cases xs with
 |nil=>simp [join_nil]
 |cons x r=>
  rw [join_length];have hl:∀(l:List lU),(∀x∈l,x.length<=n)->lens l<=l.length*n:=by
   intro l;induction l with
   |nil=>intro _;simp [lens]
   |cons y t ih=>
    intro h;have h1:=h y (List.mem_cons_self ..);have h2:=ih fun z hz=>h z (List.mem_cons_of_mem _ hz);simp only [lens,cK,List.sum_cons,bW] at h2 ⊢;rw [Nat.add_mul];omega
  have:=hl (x::r) h;simp only [bW] at this ⊢;rw [Nat.mul_add,Nat.mul_comm sep.length r.length,Nat.add_mul r.length 1 sep.length];generalize (r.length+1)*n=p at*;generalize r.length*sep.length=q at*;omega
theorem qV (xs:List lU) (y sep:lU):Lib.join (xs++[y]) sep=if xs=[] then y else Lib.join xs sep++(sep++y):=by
 cases xs with
 |nil=>simp [join_one]
 |cons x r=>
  rw [if_neg (by simp),List.cons_append,join_cons,join_cons];simp [joinTail]
theorem B2 {xs:lI} (hx:∀x∈xs,kx x) (sep:lU) (hs:sep.length<=10) (h:xs.length<=1048576):(Lib.join (xs.map itoa) sep).length<=32505856:=by
 have h1:=tN (xs.map itoa) sep 21 (by
  intro y hy;obtain ⟨x,hxm,rfl⟩:=List.mem_map.1 hy
  exact cU (hx x hxm))
 rw [cr] at h1;have h2:xs.length*(21+sep.length)<=1048576*31:=Nat.mul_le_mul h (by omega);omega
theorem tO (sep:lU) (hs:sep.length<=10) (xs:lI) (h:xs.length<=1048576) (hx:∀x∈xs,kx x):Fn pG 165 [aM xs,eS sep] true (· =eS (Lib.join (xs.map itoa) sep)):=by
 refine Fn.av 24 [.tmp 4] func165 (hv:= ?_);simp -dsimp -implicitDefEqProofs only [go_sem];refine ak.up [1,9,10] [17,18,19] [8] xs.length (fun _=>True) (fun i=>[(5,.ref 8 0 0 i),(11,eI i)]) (fun i=>[(8,.row 0 ⟨1,false⟩ true (((xs.take i).map itoa).map eS))]) trivial ?_ rfl (fun i hi _=> ?_) (fun _=> ?_)
 . simp -dsimp -implicitDefEqProofs only [go_sem]
 . have gi:=get_some hi;have h64:=hx xs[i] (uq9 hi);have htk:xs.take (i+1)=xs.take i++[xs[i]]:=aP hi;rw [htk];generalize xs[i]=x at*;simp -dsimp -implicitDefEqProofs only [pz,bC,bD,bx,↓reduceIte,aT];simp -dsimp -implicitDefEqProofs only [go_sem,aG hi,gi];with_reducible and_intros
   all_goals try (omega)
   refine ab (k8 h64) ?_;simp -dsimp -implicitDefEqProofs only [go_sem];with_reducible and_intros
   all_goals (first|omega|(refine ⟨?_,?_⟩<;>omega)|exact rfl|(simp;done)|skip)
 have hj:=B2 hx sep hs h;simp -dsimp -implicitDefEqProofs only [pz,bC,bD,bx,↓reduceIte,aT];simp -dsimp -implicitDefEqProofs only [go_sem,aC,aY];have e:cL xs.length (bk eS (bk itoa xs))=bk eS (bk itoa xs):=bg (by simp);simp only [e];refine ab (P9 (xs.map itoa) sep (by simp;omega) (by omega)) ?_;simp -dsimp -implicitDefEqProofs only [go_sem]
def yN (l:lI):lU:=if l=[] then [45] else Lib.join (l.map itoa) [44]
theorem zD (l:lI) (h:l.length<=100) (hx:∀x∈l,0<=x/\x<=1000000000000):Fn pG 170 [aM l] true (· =eB true):=by
 refine Fn.av 10 [.tmp 2] func170 (hv:= ?_);have hc:=oX l 0 1000000000000 (by omega);have e:(l.all fun x=>bF x 0 1000000000000)=true:=uq4.2 fun x hm=>by have:=hx x hm;simp [bF];omega
 rw [e] at hc;have h1:decide ((l.length:Int)<=100)=true:=dT (by omega);simp -dsimp -implicitDefEqProofs only [go_sem,h1];refine ab hc ?_;simp -dsimp -implicitDefEqProofs only [go_sem]
theorem I4 (l:lI) (h:l.length<=100) (hx:∀x∈l,0<=x/\x<=1000000000000):Fn pG 122 [aM l] true (· = .aZ [eS (yN l),eI 0]):=by
 refine Fn.av 12 [.tmp 2,.tmp 3] func122 (hv:= ?_);have hc:=zD l h hx;have hj:=tO [44] (by simp) l (by omega) (fun x hm=>by have:=hx x hm;unfold kx;omega);simp -dsimp -implicitDefEqProofs only [go_sem];refine ab hc ?_;unfold yN;cases l with
 |nil=>
  have e:((([]:lI).length:Int)==0)=true:=rfl;simp -dsimp -implicitDefEqProofs only [go_sem]
 |cons a r=>
  have e:(((a::r).length:Int)==0)=false:=by rw [beq_eq_false_iff_ne];simp;omega
  rw [if_neg (by simp)];generalize (a::r)=l at*;simp -dsimp -implicitDefEqProofs only [go_sem,e];refine ab hj ?_;simp -dsimp -implicitDefEqProofs only [go_sem]
theorem M0 (l:lI) (h:l.length<=100) (hx:∀x∈l,0<=x/\x<=1000000000000):Fn pG 105 [aM l] true (· =eS (yN l)):=by
 refine Fn.av 26 [.tmp 2] func105 (hv:= ?_);by_cases h0:l=[]
 . subst h0;have e:((([]:lI).length:Int)==0)=true:=rfl;simp -dsimp -implicitDefEqProofs only [go_sem];all_goals (first|exact rfl|skip)
 have hl0:0<l.length:=List.length_pos_iff.2 h0;have e:((l.length:Int)==0)=false:=by rw [beq_eq_false_iff_ne];omega
 have hlen:∀i,(Lib.join ((l.take i).map itoa) [44]).length<=32505856:=fun i=>B2 (fun x hm=>by have:=hx x (jd hm);unfold kx;omega) [44] (by simp) (by simp;omega);rw [yN,if_neg h0];simp -dsimp -implicitDefEqProofs only [go_sem,e];refine ak.up [0] [10,23] [] l.length (fun _=>True) (fun i=>[(3,eS (Lib.join ((l.take i).map itoa) [44])),(4,eI i)]) (fun _=>[]) trivial ?_ rfl (fun i hi _=> ?_) (fun _=> ?_)
 . simp -dsimp -implicitDefEqProofs only [go_sem];exact rfl
 . have gi:=get_some hi;have hd:=fm l[i] (by have:=hx _ (uq9 hi);omega);have hil:=cU (v:=l[i]) (by have:=hx _ (uq9 hi);unfold kx;omega);have hln:=hlen i;have hT:Lib.join ((l.take (i+1)).map itoa) [44]=if i=0 then itoa l[i] else Lib.join ((l.take i).map itoa) [44]++([44]++itoa l[i]):=by
    rw [aP hi,bR,hZ,qV];by_cases hz:i=0
    . subst hz;simp
    rw [if_neg hz,if_neg];intro e2;have:=congrArg List.length e2;rw [cr,List.length_take,bQ] at this;omega
   rw [hT];clear hT;generalize l[i]=x at*;rcases Nat.eq_zero_or_pos i with rfl|hp
   . have d0:decide ((0:Int)>0)=false:=rfl;have dl:decide ((0:Int)<(l.length:Int))=true:=dT (by omega);rw [if_pos rfl];have ez:Lib.join ((l.take 0).map itoa) [44]=[]:=by rw [fW];rfl
     rw [ez];simp -dsimp -implicitDefEqProofs only [pz,bx,↓reduceIte,aT];simp -dsimp -implicitDefEqProofs only [go_sem,dl,gi,d0];((with_reducible and_intros);all_goals try (omega));refine ab hd ?_;simp -dsimp -implicitDefEqProofs only [go_sem];((with_reducible and_intros);all_goals try first|omega|(refine ⟨?_,?_⟩<;>omega)|exact rfl)
   have d0:decide ((i:Int)>0)=true:=dT (by omega);rw [if_neg (by omega)];generalize Lib.join ((l.take i).map itoa) [44]=o at*;simp -dsimp -implicitDefEqProofs only [pz,↓reduceIte,aT];simp -dsimp -implicitDefEqProofs only [go_sem,aG hi,gi,d0];((with_reducible and_intros);all_goals try (omega));refine ab hd ?_;simp -dsimp -implicitDefEqProofs only [go_sem];((with_reducible and_intros);all_goals try first|omega|(refine ⟨?_,?_⟩<;>omega)|exact rfl);all_goals first|(simp;done)|skip
 simp -dsimp -implicitDefEqProofs only [pz,↓reduceIte,aT];simp -dsimp -implicitDefEqProofs only [go_sem,aC,aY]
def Qt (x:Int):UInt8:=UInt8.ofNat (48+x.toNat)
def o8 (c:lI):lU:=c.map Qt
theorem Qu {x:Int} (h:0<=x/\x<=9):((Qt x).toNat:Int)=48+x:=by unfold Qt;rw [UInt8.toNat_ofNat'];omega
theorem Qv {x:Int} (h:0<=x/\x<=9):itoa x=[Qt x]:=by rw [ff h.1,Kn (by omega)];rfl
theorem M1:∀(c:lI),(∀x∈c,0<=x/\x<=9)->Lib.join (c.map itoa) []=o8 c:=by
 intro c hc;have hf:∀(c:lI),(∀x∈c,0<=x/\x<=9)->(c.map itoa).flatten=o8 c:=by
  intro c;induction c with
  |nil=>intro _;rfl
  |cons x r ih=>
   intro h;rw [cK,List.flatten_cons,Qv (h x (List.mem_cons_self ..)),ih fun y hy=>h y (List.mem_cons_of_mem _ hy)];rfl
 rw [←hf c hc];cases c with
 |nil=>rfl
 |cons x r=>
  rw [cK,join_cons,joinTail,List.flatten_cons];congr 2;simp
theorem M3 (c:lI) (h:c.length<=1048576) (hx:∀x∈c,0<=x/\x<=9):Fn pG 66 [aM c] true (· =eS (o8 c)):=by
 refine Fn.av 23 [.tmp 2] func66 (hv:= ?_);simp -dsimp -implicitDefEqProofs only [go_sem];refine ak.up [0] [8,19,20] [5] c.length (fun _=>True) (fun i=>[(3,.ref 5 0 0 i),(4,eI i)]) (fun i=>[(5,.row 0 ⟨1,false⟩ true ((o8 (c.take i)).map eY))]) trivial ?_ rfl (fun i hi _=> ?_) (fun _=> ?_)
 . simp -dsimp -implicitDefEqProofs only [go_sem];all_goals first|rfl|skip
 . have gi:=get_some hi;have hb:=hx c[i] (uq9 hi);have htk:o8 (c.take (i+1))=o8 (c.take i)++[Qt c[i]]:=by
    rw [aP hi,o8,bR];rfl
   have hln:(o8 (c.take i)).length=i:=by simp [o8];omega
   rw [htk,bR,hZ];clear htk;generalize o8 (c.take i)=K at*;generalize c[i]=x at*;have hw:IntKind.u8.wrap (48+x)=48+x:=pQ (by omega);have hd:=Qu hb;have tK:cL i (K.map eY)=K.map eY:=bg (by simp [hln]);simp -dsimp -implicitDefEqProofs only [pz,bC,bD,bx,↓reduceIte,aT];simp -dsimp -implicitDefEqProofs only [go_sem,aG hi,gi,hw,tK];((with_reducible and_intros);all_goals try first|omega|(refine ⟨?_,?_⟩<;>omega)|exact rfl);all_goals first|(simp;omega)|skip
 have hln:(o8 c).length=c.length:=by simp [o8]
 rw [aY];have tK:cL c.length ((o8 c).map eY)=(o8 c).map eY:=bg (by simp [hln]);simp -dsimp -implicitDefEqProofs only [pz,bC,bD,bx,↓reduceIte,aT];simp -dsimp -implicitDefEqProofs only [go_sem,aC,tK];(all_goals try (omega))
def XC (m:aL) (c:lI):lU × Int:=if a6 m=true then if fault m c=0 then (o8 c,0) else ([],2) else ([],1)
theorem B3 {m:aL} (hm:a6 m=true) {c:lI} (h:fault m c=0):∀x∈c,0<=x/\x<=9:=by have hk:=qo.Qg h;have hn:=aO hm;intro x hx;have:=hk.el x hx;omega
theorem M4 (m:aL) (c:lI) (h:c.length<=1048576):Fn pG 124 [kV m,aM c] true (· = .aZ [eS (XC m c).1,eI (XC m c).2]):=by
 refine Fn.av 16 [.tmp 4,.tmp 5] func124 (hv:= ?_);have hc:=vp m c h;unfold XC;by_cases hm:a6 m=true
 . rw [if_pos hm] at hc ⊢;by_cases hf:fault m c=0
   . rw [if_pos hf] at hc ⊢;have hd:=B3 hm hf;have hj:=tO [] (by simp) c h (fun x hx=>by have:=hd x hx;unfold kx;omega);rw [M1 c hd] at hj;have e:((0:Int) != 0)=false:=rfl;simp -dsimp -implicitDefEqProofs only [go_sem];refine ab hc ?_;simp -dsimp -implicitDefEqProofs only [go_sem,e];refine ab hj ?_;simp -dsimp -implicitDefEqProofs only [go_sem]
   rw [if_neg hf] at hc ⊢;have e:((2:Int) != 0)=true:=rfl;simp -dsimp -implicitDefEqProofs only [go_sem];refine ab hc ?_;simp -dsimp -implicitDefEqProofs only [go_sem,e]
 rw [if_neg hm] at hc ⊢;have e:((1:Int) != 0)=true:=rfl;simp -dsimp -implicitDefEqProofs only [go_sem];refine ab hc ?_;simp -dsimp -implicitDefEqProofs only [go_sem,e]
def bA (s:lU):lI:=s.map fun b=>(b.toNat:Int)-48
def kg (m:aL) (s:lU):lI × Int:=if a6 m=true then if fault m (bA s)=0 then (bA s,0) else ([],6) else ([],1)
theorem dc (s:lU):(bA s).length=s.length:=by simp [bA]
theorem I5 {m:aL} (hm:a6 m=true) {s:lU} (h:fault m (bA s)=0):s.all dQ=true:=by have hd:=B3 hm h;rw [uq4];intro b hb;have:=hd _ (List.mem_map_of_mem (f:=fun b:UInt8=>(b.toNat:Int)-48) hb);simp [dQ];omega
theorem M5 (m:aL) (hm:a6 m=true) (s:lU) (h:s.length<=1048576):Fn pG 167 [kV m,eS s] true (· = .aZ [aM (bA s),eB (fF m (bA s))]):=by
 refine Fn.av 27 [.tmp 4,.tmp 5] func167 (hv:= ?_);have hk:=De m (bA s) hm (by rw [dc];exact h);simp -dsimp -implicitDefEqProofs only [go_sem];refine ak.up [1,2,10] [20,21] [8] s.length (fun _=>True) (fun i=>[(6,.ref 8 0 0 i),(11,eI i)]) (fun i=>[(8,.row 0 ⟨1,false⟩ true ((bA (s.take i)).map eI))]) trivial ?_ rfl (fun i hi _=> ?_) (fun _=> ?_)
 . simp -dsimp -implicitDefEqProofs only [go_sem];all_goals first|rfl|skip
 . have hg:(s.getD i 0)=s[i]:=by rw [uq7,uq8 hi];rfl
   have hb:=(s[i]).toNat_lt;have htk:bA (s.take (i+1))=bA (s.take i)++[(s[i].toNat:Int)-48]:=by rw [aP hi,bA,bR];rfl
   have hln:(bA (s.take i)).length=i:=by rw [dc,List.length_take];omega
   rw [htk,bR,hZ];clear htk;generalize bA (s.take i)=K at*;generalize s[i]=b at*;have tK:cL i (K.map eI)=K.map eI:=bg (by simp [hln]);simp -dsimp -implicitDefEqProofs only [pz,bC,bD,bx,↓reduceIte,aT];simp -dsimp -implicitDefEqProofs only [go_sem,aG hi,hg,tK];((with_reducible and_intros);all_goals try first|omega|(refine ⟨?_,?_⟩<;>omega)|exact rfl)
 rw [aY];have hln:=dc s;have tK:cL s.length ((bA s).map eI)=(bA s).map eI:=bg (by simp [hln]);simp -dsimp -implicitDefEqProofs only [pz,bC,bD,bx,↓reduceIte,aT];simp -dsimp -implicitDefEqProofs only [go_sem,aC,tK];((with_reducible and_intros);all_goals try (omega));refine ab hk ?_;simp -dsimp -implicitDefEqProofs only [go_sem,tK];((with_reducible and_intros);all_goals try (omega));all_goals first|(simp;done)|skip
theorem yO (m:aL) (s:lU) (h:s.length<=1048576):Fn pG 120 [kV m,eS s] true (· = .aZ [aM (kg m s).1,eI (kg m s).2]):=by
 refine Fn.av 20 [.tmp 4,.tmp 5] func120 (hv:= ?_);unfold kg;rcases hm:a6 m with _|_
 . have hi:=eR m;rw [hm] at hi;rw [if_neg (by simp)];simp -dsimp -implicitDefEqProofs only [go_sem];refine ab hi ?_;simp -dsimp -implicitDefEqProofs only [go_sem]
 have hi:=eR m;rw [hm] at hi;have hr:=M5 m hm s h;have hln:=dc s;rw [if_pos rfl];simp -dsimp -implicitDefEqProofs only [go_sem];refine ab hi ?_;simp -dsimp -implicitDefEqProofs only [go_sem];refine ab hr ?_;by_cases hf:fault m (bA s)=0
 . have e:fF m (bA s)=true:=beq_iff_eq.2 hf;rw [if_pos hf];simp -dsimp -implicitDefEqProofs only [go_sem,e];all_goals first|(simp;done)|skip
 have e:fF m (bA s)=false:=beq_eq_false_iff_ne.2 hf;rw [if_neg hf];simp -dsimp -implicitDefEqProofs only [go_sem,e]
theorem B4 (s:lU) (h:s.length<=1048576):Fn pG 135 [eS s] true (· = .aZ [aM (if s.all dQ=true then bA s else []),eB (s.all dQ)]):=by
 refine Fn.av 32 [.tmp 2,.tmp 3] func135 (hv:= ?_);simp -dsimp -implicitDefEqProofs only [go_sem];refine ak.up [0] [9,29,30] [6] s.length (fun i=>(s.take i).all dQ=true) (fun i=>[(4,.ref 6 0 0 i),(5,eI i)]) (fun i=>[(6,.row 0 ⟨1,false⟩ true ((bA (s.take i)).map eI))]) rfl ?_ rfl (fun i hi hI=> ?_) (fun hI=> ?_)
 . simp -dsimp -implicitDefEqProofs only [go_sem];all_goals first|rfl|skip
 . have hg:(s.getD i 0)=s[i]:=by rw [uq7,uq8 hi];rfl
   have hb:=(s[i]).toNat_lt;have cX:=dy dQ s i hi;have hno:=fun h=>gQ (p:=dQ) hi h;have hd:=IY s[i];have htk:bA (s.take (i+1))=bA (s.take i)++[(s[i].toNat:Int)-48]:=by rw [aP hi,bA,bR];rfl
   have hln:(bA (s.take i)).length=i:=by rw [dc,List.length_take];omega
   rw [htk,bR,hZ];clear htk;generalize bA (s.take i)=K at*;have tK:cL i (K.map eI)=K.map eI:=bg (by simp [hln]);generalize s[i]=b at*;rcases d1:decide ((b.toNat:Int)<48) with _|_
   . rcases d2:decide ((b.toNat:Int)>57) with _|_
     . have e1:=of_decide_eq_false d1;have hw:IntKind.u8.wrap ((b.toNat:Int)-48)=(b.toNat:Int)-48:=pQ (by have:=of_decide_eq_false d2;omega);simp -dsimp -implicitDefEqProofs only [pz,bC,bD,bx,↓reduceIte,aT];simp -dsimp -implicitDefEqProofs only [go_sem,aG hi,hg,d1,d2,hw,tK];((with_reducible and_intros);all_goals try first|omega|(refine ⟨?_,?_⟩<;>omega)|exact rfl);all_goals first|(rw [cX,hI];show dQ b=true;rw [dQ,hd,d1,d2];rfl)|skip
     have hz:=hno (by rw [dQ,hd,d1,d2];rfl);rw [hz,if_neg (by simp)];simp -dsimp -implicitDefEqProofs only [pz,bC,bD,bx,↓reduceIte,aT];simp -dsimp -implicitDefEqProofs only [go_sem,aG hi,hg,d1,d2];((with_reducible and_intros);all_goals try (omega))
   have hz:=hno (by rw [dQ,hd,d1];rfl);rw [hz,if_neg (by simp)];simp -dsimp -implicitDefEqProofs only [pz,bC,bD,bx,↓reduceIte,aT];simp -dsimp -implicitDefEqProofs only [go_sem,aG hi,hg,d1];((with_reducible and_intros);all_goals try (omega))
 rw [aY] at hI ⊢;rw [hI,if_pos rfl];have hln:=dc s;have tK:cL s.length ((bA s).map eI)=(bA s).map eI:=bg (by simp [hln]);simp -dsimp -implicitDefEqProofs only [pz,bC,bD,bx,↓reduceIte,aT];simp -dsimp -implicitDefEqProofs only [go_sem,aC,tK];((with_reducible and_intros);all_goals try (omega));all_goals first|(simp;done)|skip
theorem yP (m:aL) (s:lU) (h:s.length<=1048576):Fn pG 103 [kV m,eS s] true (· = .aZ [aM (kg m s).1,eI (kg m s).2]):=by
 refine Fn.av 25 [.tmp 4,.tmp 5] func103 (hv:= ?_);unfold kg;have hi:=fE m;rcases hm:a6 m with _|_
 . rw [hm] at hi;rw [if_neg (by simp)];simp -dsimp -implicitDefEqProofs only [go_sem];refine ab hi ?_;simp -dsimp -implicitDefEqProofs only [go_sem]
 rw [hm] at hi;have hr:=B4 s h;have hln:=dc s;have hft:=nG m (bA s) hm (by omega);rw [if_pos rfl];rcases hd:s.all dQ with _|_
 . rw [hd,if_neg (by simp)] at hr;have hf:¬fault m (bA s)=0:=fun e=>by rw [I5 hm e] at hd;cases hd
   rw [if_neg hf];simp -dsimp -implicitDefEqProofs only [go_sem];refine ab hi ?_;simp -dsimp -implicitDefEqProofs only [go_sem];refine ab hr ?_;simp -dsimp -implicitDefEqProofs only [go_sem]
 rw [hd,if_pos rfl] at hr;have tK:cL (bA s).length ((bA s).map eI)=(bA s).map eI:=bg (by simp);by_cases hf:fault m (bA s)=0
 . have e:((0:Int) != 0)=false:=rfl;rw [hf] at hft;rw [if_pos hf];simp -dsimp -implicitDefEqProofs only [go_sem];refine ab hi ?_;simp -dsimp -implicitDefEqProofs only [go_sem];refine ab hr ?_;simp -dsimp -implicitDefEqProofs only [go_sem,tK];refine ab hft ?_;simp -dsimp -implicitDefEqProofs only [go_sem,e,tK];all_goals first|(simp;done)|skip
 have e:(fault m (bA s) != 0)=true:=bne_iff_ne.2 hf;rw [if_neg hf];simp -dsimp -implicitDefEqProofs only [go_sem];refine ab hi ?_;simp -dsimp -implicitDefEqProofs only [go_sem];refine ab hr ?_;simp -dsimp -implicitDefEqProofs only [go_sem,tK];refine ab hft ?_;simp -dsimp -implicitDefEqProofs only [go_sem,e]
structure Z4 (m:aL):Prop where
 c:0<=m.ah/\m.ah<=7
 d:0<=m.aq/\m.aq<=9
 s:0<=m.step/\m.step<=9
 a:0<=m.same/\m.same<=9
 l:0<=m.least/\m.least<=9
structure Z5 where
 ae:lI
 at':Int
 src:Src
theorem M6 (xs ys:lI) (h:xs.length<=9223372036854775807):Fn pG 243 [aM xs,aM ys] true (· =eB (decide (xs=ys))):=by
 refine Fn.av 26 [.tmp 4] func243 (hv:= ?_);simp -dsimp -implicitDefEqProofs only [go_sem];repeat' (refine Br.intro (fun _=> ?_) (fun _=> ?_)<;>try simp -dsimp -implicitDefEqProofs only [go_sem, *])
 . rw [decide_eq_false];intro e;subst e;simp_all
 have h1:xs.length=ys.length:=by simp_all<;>omega
 refine ak.up [0,1] [13] [] xs.length (fun i=>xs.take i=ys.take i) (fun i=>[(5,eI i)]) (fun _=>[]) rfl ?_ rfl (fun i hi hI=> ?_) (fun hI=> ?_)
 . simp -dsimp -implicitDefEqProofs only [go_sem]
 . simp -dsimp -implicitDefEqProofs only [pz,↓reduceIte,aT];have hy:i<ys.length:=by omega
   have no:xs[i]≠ys[i]->decide (xs=ys)=false:=Kf hi hy;have yes:xs[i]=ys[i]->xs.take (i+1)=ys.take (i+1):=C8 hi hy hI;simp -dsimp -implicitDefEqProofs only [go_sem,aG hi];refine ak.draw mixed rfl ?_;simp -dsimp -implicitDefEqProofs only [go_sem,get_some hi,get_some hy]
   repeat' first
    |(refine Br.intro (fun _=> ?_) (fun _=> ?_)<;>try simp -dsimp -implicitDefEqProofs only [go_sem, *])
    |(with_reducible refine ai ?_ ?_)
    |fail
   all_goals first
    |omega
    |(refine ⟨?_,?_⟩<;>omega)
    |rfl
    |(rw [no];clear no yes;simp_all;done)
    |(refine yes ?_;clear no yes;simp_all;done)
 simp -dsimp -implicitDefEqProofs only [pz,↓reduceIte,aT];simp -dsimp -implicitDefEqProofs only [go_sem,aC];have h3:xs=ys:=by rw [←aY (l:=xs),hI,h1,aY]
 simp [h3]
structure BS where
 ps:lI
 ds:List Bool
 gs:lI
 src:Src
def Zv (ps:lI):Prop:=∀i,i<ps.length-> -1<=ps.getD i 0/\ps.getD i 0<i/\(0<i->0<=ps.getD i 0)
structure Zw (z:BS) (j:Nat):Prop where
 src:Qs z.src
 lp:z.ps.length=j+1
 ld:z.ds.length=j+1
 lg:1<=z.gs.length/\z.gs.length<=j+1
 gs:∀g∈z.gs,0<=g/\g<=j
 ps:Zv z.ps
def XD (ps:lI):Nat->Int->Int->Bool
 |0,_,_=>false
 |k+1,node,other=>if node<0 then false else if (node==other)=true then true else XD ps k (ps.getD node.toNat 0) other
def V3 (ps:lI) (ds:List Bool) (node:Int):lI:=vJ (fun i=>ds.getD i false&&XD ps ps.length (i:Int) node) ds.length
structure XE where
 ps:lI
 ds:List Bool
 I6:lL
structure YS (p:XE):Prop where
 lp:p.ps.length<=10
 ld:p.ds.length=p.ps.length
 lr:1<=p.I6.length/\p.I6.length<=4
 rs:∀x∈p.I6,x.length<=11
 ps:Zv p.ps
 some:1<=(V3 p.ps p.ds 0).length
structure Zx (m:aL) (t:lL) (s:Src):Prop where
 src:Qs s
 ky:a6 m=true
 lt:1<=t.length/\t.length<=4
 lr:1<=(t.getD 0 []).length/\(t.getD 0 []).length<=4
 rs:∀i (hi:i<t.length),t[i].length=(t.getD 0 []).length
structure ZQ where
 m:aL
 t:lL
 ae:lL
 src:Src
structure Zy (z:ZQ):Prop where
 src:Qs z.src
 lt:z.t.length<=11
 lr:∀x∈z.t,x.length<=13
 lc:z.ae.length<=10
 lk:∀x∈z.ae,x.length<=8
theorem tk {α β:Type} (f:α->β) (l:List α) (n:Nat) (h:l.length<=n):(l.map f).take n=l.map f:=bg (by simpa using h)
theorem Gi (m:aL) (t:lL) (lim:Nat):(∃(f:lL) (tr:Nat),lV m t lim= .aZ [aR f,eI tr,eI 0]/\f.length<=t.length/\∀k∈f,k∈bE m)\/∃c:Int,(c==0)=false/\lV m t lim= .aZ [.val (.slice none 0 0),eI 0,eI c]:=by
 unfold lV;by_cases h:k7 m t lim=0
 . rw [if_pos h];have hok:=k6 (m:=m) (t:=t) (lim:=lim) t.length [] ⟨0,false,[]⟩ (fun k h=>by cases h) (Nat.zero_le _) rfl;generalize dP m t lim t.length [] ⟨0,false,[]⟩=F at*;obtain ⟨b,tr,st,fd⟩:=F;obtain ⟨g1,g2,g3,g4⟩:=hok;simp only at g1 g2 g3 g4 ⊢;cases fd with
   |nil=>exact .inr ⟨if st=true then 3 else 4,by cases st<;>rfl,by cases st<;>rfl⟩
   |cons f r=>
    have:=g4 f (List.mem_cons_self ..);exact .inl ⟨f,tr,rfl,by have:=this.1;simp at this;omega,this.2⟩
 rw [if_neg h];exact .inr ⟨_,by simpa using h,rfl⟩
def n7 (s:lU):lU:=if s.drop (s.length-1)=[10] then s.take (s.length-1) else s
theorem Gj (s:lU) (h:s.length<=1048576):Fn pG 111 [eS s,eS [10]] true (· =eB (decide (s.drop (s.length-1)=[10]))):=by
 refine Fn.av 21 [.tmp 4] func111 (hv:= ?_);by_cases h0:s=[]
 . subst h0;have d0:decide ((0:Int)≥((1:Nat):Int))=false:=rfl;simp -dsimp -implicitDefEqProofs only [go_sem,d0];(all_goals try (exact rfl))
 have hl:=List.length_pos_iff.2 h0;have d0:decide ((s.length:Int)≥((1:Nat):Int))=true:=dT (by omega);have e1:((s.length:Int)-((1:Nat):Int)).toNat=s.length-1:=by omega
 simp -dsimp -implicitDefEqProofs only [go_sem,d0,e1];((with_reducible and_intros);all_goals try first|omega|(refine ⟨?_,?_⟩<;>omega))
theorem zE (s:lU) (h:s.length<=1048576):Fn pG 82 [eS s,eS [10]] true (· =eS (n7 s)):=by
 refine Fn.av 16 [.tmp 4] func82 (hv:= ?_);have hc:=Gj s h;unfold n7;by_cases hs:s.drop (s.length-1)=[10]
 . rw [decide_eq_true hs] at hc;rw [if_pos hs];have hl:0<s.length:=by
    have:=congrArg List.length hs;rw [List.length_drop,List.length_singleton] at this;omega
   have e1:((s.length:Int)-((1:Nat):Int)).toNat=s.length-1:=by omega
   simp -dsimp -implicitDefEqProofs only [go_sem];refine ab hc ?_;simp -dsimp -implicitDefEqProofs only [go_sem,e1];((with_reducible and_intros);all_goals try first|omega|(refine ⟨?_,?_⟩<;>omega))
 rw [decide_eq_false hs] at hc;rw [if_neg hs];simp -dsimp -implicitDefEqProofs only [go_sem];refine ab hc ?_;simp -dsimp -implicitDefEqProofs only [go_sem]
theorem Dm (s:lU) (h:s.length<=1048576):Fn pG 59 [eS s,eS [10]] true (· =eS (n7 s)):=by refine Fn.av 8 [.tmp 4] func59 (hv:= ?_);simp -dsimp -implicitDefEqProofs only [go_sem];refine ab (zE s h) ?_;simp -dsimp -implicitDefEqProofs only [go_sem]
def dw (s:lU):List lU:=if (dq 10 s).getD ((dq 10 s).length-1) []=[] then (dq 10 s).take ((dq 10 s).length-1) else dq 10 s
theorem qp {c:UInt8}:∀(a:lU),dq c (a++[c])=dq c a++[[]]
 | []=>by simp [dq]
 |b::a=>by
  have ih:=qp (c:=c) a;rw [List.cons_append,dq,dq,ih];by_cases hb:b=c
  . rw [if_pos hb,if_pos hb];rfl
  rw [if_neg hb,if_neg hb];have hne:=tx c a;cases hs:dq c a with
  |nil=>exact absurd hs hne
  |cons x r=>rfl
theorem Gk {c:UInt8}:∀(a:lU),(dq c a).getD ((dq c a).length-1) []=[]->a=[]\/∃b,a=b++[c]
 | [],_=>.inl rfl
 |b::a,h=>by
  right;have ih:=Gk (c:=c) a;have hne:=tx c a;rw [dq] at h;by_cases hb:b=c
  . rw [if_pos hb] at h;have h2:(dq c a).getD ((dq c a).length-1) []=[]:=by
     have hl:0<(dq c a).length:=List.length_pos_iff.2 hne;rw [bW,show (dq c a).length+1-1=((dq c a).length-1)+1 by omega,List.getD_cons_succ] at h;exact h
    rcases ih h2 with rfl|⟨d,rfl⟩
    . exact ⟨[],by rw [hb];rfl⟩
    exact ⟨b::d,rfl⟩
  rw [if_neg hb] at h;cases hs:dq c a with
  |nil=>exact absurd hs hne
  |cons x r=>
   rw [hs] at h;simp only at h;cases r with
   |nil=>simp at h
   |cons y z=>
    have h2:(dq c a).getD ((dq c a).length-1) []=[]:=by rw [hs];simpa using h
    rcases ih h2 with rfl|⟨d,rfl⟩
    . simp [dq] at hs
    exact ⟨b::d,rfl⟩
theorem I7 (s:lU):(if s=[] then [] else dq 10 (n7 s))=dw s:=by
 by_cases h0:s=[]
 . subst h0;rw [if_pos rfl];rfl
 rw [if_neg h0];by_cases hd:s.drop (s.length-1)=[10]
 . have hs:s=s.take (s.length-1)++[10]:=by
    conv=>lhs;rw [←List.take_append_drop (s.length-1) s,hd]
   have ht:n7 s=s.take (s.length-1):=by rw [n7,if_pos hd]
   rw [ht];generalize s.take (s.length-1)=a at*;subst hs;rw [dw,qp];have hl:(dq 10 a++[[]]).length-1=(dq 10 a).length:=by simp
   rw [hl,if_pos (by simp [uq7]),List.take_left'];rfl
 have ht:n7 s=s:=by rw [n7,if_neg hd]
 rw [ht,dw,if_neg];intro e;rcases Gk s e with h|⟨b,rfl⟩
 . exact h0 h
 apply hd;simp
theorem tQ:∀s:lU,(dq 10 s).length<=s.length+1:=by
 intro s;induction s with
 |nil=>simp [dq]
 |cons b s ih=>
  rw [dq];split
  . simp;omega
  split
  . rename_i h;rw [h] at ih;simpa using (by simp at ih ⊢;omega)
  simp
theorem qW (s:lU):(dw s).length<=s.length+1/\∀l∈dw s,l.length<=s.length:=by
 have h2:=iY 10 s;unfold dw;split
 . exact ⟨by have:=tQ s;simp;omega,fun l hl=>h2 l (jd hl)⟩
 exact ⟨tQ s,h2⟩
theorem qX (s:lU) (h:s.length<=1048576):Fn pG 30 [eS s] true (· =nC (dw s)):=by
 refine Fn.av 19 [.tmp 2] func30 (hv:= ?_);have hc:=yM s 10 h;have hne:=tx 10 s;have hLl:=tQ s;unfold dw;generalize dq 10 s=L at*;have hl:0<L.length:=List.length_pos_iff.2 hne;have e1:((L.length:Int)-1).toNat=L.length-1:=by omega
 have g1:L[L.length-1]? =some (L.getD (L.length-1) []):=by rw [uq7,uq8 (by omega)];rfl
 generalize L.getD (L.length-1) []=z at*;by_cases hz:z=[]
 . subst hz;rw [if_pos rfl];simp -dsimp -implicitDefEqProofs only [go_sem];refine ab hc ?_;simp -dsimp -implicitDefEqProofs only [go_sem,e1,g1];((with_reducible and_intros);all_goals try first|omega|(refine ⟨?_,?_⟩<;>omega));all_goals first|(simp;done)|(first|omega|(refine ⟨?_,?_⟩<;>omega)|exact rfl|(simp;done)|skip)
 have dz:decide (z=[])=false:=dF hz;rw [if_neg hz];simp -dsimp -implicitDefEqProofs only [go_sem];refine ab hc ?_;simp -dsimp -implicitDefEqProofs only [go_sem,e1,g1,dz];((with_reducible and_intros);all_goals try first|omega|(refine ⟨?_,?_⟩<;>omega));all_goals first|(simp;done)|(first|omega|(refine ⟨?_,?_⟩<;>omega)|exact rfl|(simp;done)|skip)
theorem B5 (s:lU) (h:s.length<=1048576):Fn pG 28 [eS s] true (· =eB (decide (s.length<=3000)&&decide ((dw s).length<=50))):=by
 refine Fn.av 12 [.tmp 2] func28 (hv:= ?_);have hc:=qX s h;rcases d1:decide ((s.length:Int)<=3000) with _|_
 . have e1:decide (s.length<=3000)=false:=dF (by have:=of_decide_eq_false d1;omega);rw [e1,uq1];simp -dsimp -implicitDefEqProofs only [go_sem,d1]
 have e1:decide (s.length<=3000)=true:=dT (by have:=oT d1;omega);have e2:decide (((dw s).length:Int)<=50)=decide ((dw s).length<=50):=by rw [decide_eq_decide];omega
 rw [e1,uq3,←e2];simp -dsimp -implicitDefEqProofs only [go_sem,d1];refine ab hc ?_;simp -dsimp -implicitDefEqProofs only [go_sem]
theorem WN {m:aL} (hm:a6 m=true) {k:lI} (h:qo m k):k≠[]:=by have ⟨⟨zO,zP⟩,hd1,hd2⟩:=aO hm;have:=h.len;intro hk;rw [hk] at this;simp at this;omega
theorem M7 {m:aL} (hm:a6 m=true):(bE m).length<=262144:=by have ⟨⟨zO,zP⟩,hd1,hd2⟩:=aO hm;have:(bE m).length<=8^6:=Nat.le_trans (ko m hm _ _) (Nat.pow_le_pow_right (by decide) (by omega));omega
def lX (m:aL) (se sec:Int):Int:=if a6 m=true then if bF se 0 25=true/\bF sec 0 (iK m-1)=true then 0 else 2 else 1
def j7 (m:aL) (key:lI) (se sec:Int):lU × Int:=
 if lX m se sec=0 then if fault m key=0 then (tL (itoa (iK m)).length se ((cN m key key.length+sec).tmod (iK m)),0) else ([],2) else ([],lX m se sec)
theorem Qw (m:aL):iK m=(bE m).length:=by unfold iK;rw [Qf]
theorem qY {m:aL} (hm:a6 m=true):0<=iK m/\iK m<=262144:=by have:=M7 hm;rw [Qw];omega
theorem Qx {m:aL} {se sec:Int} (h:lX m se sec=0):a6 m=true/\(0<=se/\se<=25)/\0<=sec/\sec<iK m:=by
 unfold lX at h;split at h
 . rename_i hm;split at h
   . rename_i hi;simp only [bF,uq0,decide_eq_true_eq] at hi;exact ⟨hm,by omega,by omega,by omega⟩
   omega
 omega
theorem M8 (m:aL) (se sec:Int):Fn pG 151 [kV m,eI se,eI sec] true (· =eI (lX m se sec)):=by
 refine Fn.av 21 [.tmp 6] func151 (hv:= ?_);have ky:=fE m;unfold lX;rcases hm:a6 m with _|_
 . rw [hm] at ky;simp only [uq2,if_false];clear hm;simp -dsimp -implicitDefEqProofs only [go_sem];repeat' (refine ab (ky) ?_;try simp -dsimp -implicitDefEqProofs only [go_sem, *])
 have hcn:=lW m hm;have hb:=qY hm;have e:iK m=(lQ m m.ah.toNat []:Nat):=rfl;rw [e] at hb ⊢;rw [hm] at ky;clear hm e;generalize lQ m m.ah.toNat []=N at*;have i1:=jF se 0 25;have i2:=jF sec 0 ((N:Int)-1);simp only [if_true];generalize bF se 0 25=x at*;generalize bF sec 0 ((N:Int)-1)=y at*;cases x
 . simp only [uq2,false_and,if_false];simp -dsimp -implicitDefEqProofs only [go_sem];repeat' (refine ab (ky) ?_;try simp -dsimp -implicitDefEqProofs only [go_sem, *])
   repeat' (refine ab (i1) ?_;try simp -dsimp -implicitDefEqProofs only [go_sem, *])
 cases y
 . simp only [uq2,and_false,if_false];simp -dsimp -implicitDefEqProofs only [go_sem];repeat' (refine ab (ky) ?_;try simp -dsimp -implicitDefEqProofs only [go_sem, *])
   repeat' (refine ab (i1) ?_;try simp -dsimp -implicitDefEqProofs only [go_sem, *])
   repeat' (refine ab (hcn) ?_;try simp -dsimp -implicitDefEqProofs only [go_sem, *])
   ((with_reducible and_intros);all_goals try ((refine ⟨?_,?_⟩<;>omega)));repeat' (refine ab (i2) ?_;try simp -dsimp -implicitDefEqProofs only [go_sem, *])
 simp only [and_self,if_true];simp -dsimp -implicitDefEqProofs only [go_sem];repeat' (refine ab (ky) ?_;try simp -dsimp -implicitDefEqProofs only [go_sem, *])
 repeat' (refine ab (i1) ?_;try simp -dsimp -implicitDefEqProofs only [go_sem, *])
 repeat' (refine ab (hcn) ?_;try simp -dsimp -implicitDefEqProofs only [go_sem, *])
 ((with_reducible and_intros);all_goals try ((refine ⟨?_,?_⟩<;>omega)));repeat' (refine ab (i2) ?_;try simp -dsimp -implicitDefEqProofs only [go_sem, *])
theorem Gl (m:aL):Fn pG 180 [kV m] true (· = .aZ [eI (if a6 m=true then iK m else 0),eI (if a6 m=true then 0 else 1)]):=by
 refine Fn.av 9 [.tmp 2,.tmp 3] func180 (hv:= ?_);have ky:=eR m;rcases hm:a6 m with _|_
 . rw [hm] at ky;simp only [uq2,if_false];clear hm;simp -dsimp -implicitDefEqProofs only [go_sem];repeat' (refine ab (ky) ?_;try simp -dsimp -implicitDefEqProofs only [go_sem, *])
 have hcn:=vq m hm;rw [hm] at ky;simp only [if_true];clear hm;simp -dsimp -implicitDefEqProofs only [go_sem];repeat' (refine ab (ky) ?_;try simp -dsimp -implicitDefEqProofs only [go_sem, *])
 repeat' (refine ab (hcn) ?_;try simp -dsimp -implicitDefEqProofs only [go_sem, *])
 all_goals first|rfl|skip
theorem I8 (m:aL) (key:lI) (se sec:Int) (hk:key.length<=1048576):Fn pG 125 [kV m,aM key,eI se,eI sec] true (· = .aZ [eS (j7 m key se sec).1,eI (j7 m key se sec).2]):=by
 refine Fn.av 42 [.tmp 8,.tmp 9] func125 (hv:= ?_);have fw:=Qh m key hk;have h10:((1:Int) != 0)=true:=rfl;have h20:((2:Int) != 0)=true:=rfl;have h00:((0:Int) != 0)=false:=rfl;unfold j7 lX;rcases hm:a6 m with _|_
 . rw [hm] at fw;simp only [uq2,if_false,Int.reduceEq] at fw ⊢;clear hm;simp -dsimp -implicitDefEqProofs only [go_sem];repeat' (refine ab (fw) ?_;try simp -dsimp -implicitDefEqProofs only [go_sem, *])
 rw [hm] at fw;simp only [if_true] at fw ⊢;by_cases hf:fault m key=0
 . rw [if_pos hf] at fw ⊢;have hcn:=vq m hm;have hlt:=(Dh hf).2;have hb:=jI m hm;have i1:=kU se 0 25;have i2:=kU sec 0 (iK m-1);have d1:bF se 0 25=true->0<=se/\se<=25:=by simp [bF]
   have d2:bF sec 0 (iK m-1)=true->0<=sec/\sec<=iK m-1:=by simp [bF]
   have e:iK m=(lQ m m.ah.toNat []:Nat):=rfl;rw [e] at i2 d2 ⊢;have hst:=fun a b=>Gb (lQ m m.ah.toNat []) se ((cN m key key.length+sec).tmod (lQ m m.ah.toNat []:Nat)) (by omega) a b
   have hbn:0<=sec->0<=(cN m key key.length+sec).tmod (lQ m m.ah.toNat []:Nat)/\(cN m key key.length+sec).tmod (lQ m m.ah.toNat []:Nat)<=1000000:=fun h=>⟨Int.tmod_nonneg _ (by omega),by
    have:=Int.tmod_lt_of_pos (cN m key key.length+sec) (show 0<((lQ m m.ah.toNat []:Nat):Int) by omega)
    omega⟩
   generalize lQ m m.ah.toNat []=N at*;generalize cN m key key.length=r at*;have hN0:((N:Int)==0)=false:=beq_eq_false_iff_ne.2 (by omega);clear hm hf e;generalize bF se 0 25=x at*;generalize bF sec 0 ((N:Int)-1)=y at*;cases x
   . simp only [uq2,false_and,if_false,Int.reduceEq];clear hst hbn d1 d2;simp -dsimp -implicitDefEqProofs only [go_sem];repeat' (refine ab (fw) ?_;try simp -dsimp -implicitDefEqProofs only [go_sem, *])
     repeat' (refine ab (hcn) ?_;try simp -dsimp -implicitDefEqProofs only [go_sem, *])
     repeat' (refine ab (i1) ?_;try simp -dsimp -implicitDefEqProofs only [go_sem, *])
   cases y
   . simp only [uq2,and_false,if_false,Int.reduceEq];clear hst hbn d1 d2;simp -dsimp -implicitDefEqProofs only [go_sem];repeat' (refine ab (fw) ?_;try simp -dsimp -implicitDefEqProofs only [go_sem, *])
     repeat' (refine ab (hcn) ?_;try simp -dsimp -implicitDefEqProofs only [go_sem, *])
     repeat' (refine ab (i1) ?_;try simp -dsimp -implicitDefEqProofs only [go_sem, *])
     ((with_reducible and_intros);all_goals try ((refine ⟨?_,?_⟩<;>omega)));repeat' (refine ab (i2) ?_;try simp -dsimp -implicitDefEqProofs only [go_sem, *])
   simp only [and_self,if_true];have e1:=d1 rfl;have e2:=d2 rfl;have hst:=hst e1 (hbn e2.1);clear hbn d1 d2;generalize itoa (N:Int)=A at*;simp -dsimp -implicitDefEqProofs only [go_sem];repeat' (refine ab (fw) ?_;try simp -dsimp -implicitDefEqProofs only [go_sem, *])
   repeat' (refine ab (hcn) ?_;try simp -dsimp -implicitDefEqProofs only [go_sem, *])
   repeat' (refine ab (i1) ?_;try simp -dsimp -implicitDefEqProofs only [go_sem, *])
   ((with_reducible and_intros);all_goals try ((refine ⟨?_,?_⟩<;>omega)));repeat' (refine ab (i2) ?_;try simp -dsimp -implicitDefEqProofs only [go_sem, *])
   ((with_reducible and_intros);all_goals try first|omega|(refine ⟨?_,?_⟩<;>omega));repeat' (refine ab (hst) ?_;try simp -dsimp -implicitDefEqProofs only [go_sem, *])
 rw [if_neg hf] at fw;have hz:(if (if bF se 0 25=true/\bF sec 0 (iK m-1)=true then (0:Int) else 2)=0 then if fault m key=0 then (tL (itoa (iK m)).length se ((cN m key key.length+sec).tmod (iK m)),(0:Int)) else ([],2) else ([],if bF se 0 25=true/\bF sec 0 (iK m-1)=true then 0 else 2))=([],2):=by
  by_cases q:bF se 0 25=true/\bF sec 0 (iK m-1)=true
  . rw [if_pos q,if_pos rfl,if_neg hf]
  rw [if_neg q,if_neg (by omega)]
 rw [hz];clear hm hf hz;simp -dsimp -implicitDefEqProofs only [go_sem];repeat' (refine ab (fw) ?_;try simp -dsimp -implicitDefEqProofs only [go_sem, *])
theorem I9 (m:aL) (key:lI) (se sec:Int) (hk:key.length<=1048576):Fn pG 107 [kV m,aM key,eI se,eI sec] true (· = .aZ [eS (j7 m key se sec).1,eI (j7 m key se sec).2]):=by
 refine Fn.av 37 [.tmp 8,.tmp 9] func107 (hv:= ?_);have fw:=M8 m se sec;have h10:((1:Int) != 0)=true:=rfl;have h20:((2:Int) != 0)=true:=rfl;have h00:((0:Int) != 0)=false:=rfl;unfold j7;by_cases hc:lX m se sec=0
 . obtain ⟨hm,hse,Zm⟩:=Qx hc;rw [hc] at fw;rw [if_pos hc];have hfa:=nG m key hm hk;have hcn:=lW m hm;by_cases hf:fault m key=0
   . rw [hf] at hfa;rw [if_pos hf];have hlt:=(Dh hf).2;have hb:=jI m hm;have hrk:=MP m key hm hf;have e:iK m=(lQ m m.ah.toNat []:Nat):=rfl;rw [e] at Zm ⊢
     have hbn:0<=(cN m key key.length+sec).tmod (lQ m m.ah.toNat []:Nat)/\(cN m key key.length+sec).tmod (lQ m m.ah.toNat []:Nat)<=1000000:=⟨Int.tmod_nonneg _ (by omega),by
      have:=Int.tmod_lt_of_pos (cN m key key.length+sec) (show 0<((lQ m m.ah.toNat []:Nat):Int) by omega)
      omega⟩
     have hst:=MW m hm se _ hse hbn;generalize lQ m m.ah.toNat []=N at*;generalize cN m key key.length=r at*;have hN0:((N:Int)==0)=false:=beq_eq_false_iff_ne.2 (by omega);clear hm hf e hc;generalize itoa (N:Int)=A at*;simp -dsimp -implicitDefEqProofs only [go_sem];repeat' (refine ab (fw) ?_;try simp -dsimp -implicitDefEqProofs only [go_sem, *])
     repeat' (refine ab (hfa) ?_;try simp -dsimp -implicitDefEqProofs only [go_sem, *])
     refine ak.draw mixed rfl ?_;simp -dsimp -implicitDefEqProofs only [go_sem];(refine an (hrk) ?_;try simp -dsimp -implicitDefEqProofs only [go_sem, *]);((with_reducible and_intros);all_goals try ((refine ⟨?_,?_⟩<;>omega)));(refine an (hcn) ?_;try simp -dsimp -implicitDefEqProofs only [go_sem, *]);((with_reducible and_intros);all_goals try (omega));(refine an (hst) ?_;try simp -dsimp -implicitDefEqProofs only [go_sem, *]);(all_goals try (exact rfl))
   rw [if_neg hf];have hz:(fault m key != 0)=true:=bne_iff_ne.2 hf;clear hm hf hc hcn;generalize fault m key=F at*;simp -dsimp -implicitDefEqProofs only [go_sem];repeat' (refine ab (fw) ?_;try simp -dsimp -implicitDefEqProofs only [go_sem, *])
   repeat' (refine ab (hfa) ?_;try simp -dsimp -implicitDefEqProofs only [go_sem, *])
 rw [if_neg hc];have hz:(lX m se sec==0)=false:=beq_eq_false_iff_ne.2 hc;have hz2:(lX m se sec != 0)=true:=bne_iff_ne.2 hc;clear hc;generalize lX m se sec=C at*;simp -dsimp -implicitDefEqProofs only [go_sem];repeat' (refine ab (fw) ?_;try simp -dsimp -implicitDefEqProofs only [go_sem, *])
theorem Fn.vK {P:Program} {f:FuncId} {args:lA} {post:AV->Prop} (h:Fn P f args false (fun x=>∃r,sS x r/\post r)):Fn P f args false post:=
 ⟨h.1,fun w S vs h1 hk h2 h3=>(h.2 w S vs h1 hk h2 h3).mono fun _ _ ⟨x,v,g1,⟨r,g2,g3⟩,g4,g5⟩=>⟨r,v,g1,g3,g4,by
   simp only [iN,uq2,if_false] at g5 ⊢
   exact (CL (Own.rd _ _ g5) g2).mh (fun _ h=>h) fun b hb=>by cases hb⟩⟩
theorem ir {m:aL} {t ae:lL} (h:bY m t ae=0):eV m t=true/\dY m t ae=true:=by
 unfold bY at h;split at h
 . rename_i h1;split at h
   . rename_i h2;exact ⟨h1,h2⟩
   cases h
 cases h
structure M9 (m:aL) (t ae:lL):Prop where
 pR:a6 m=true
 num:(2<=m.ah/\m.ah<=6)/\2<=m.aq/\m.aq<=8
 tl:t.length<=1000
 t0:0<t.length
 le:ae.length<=t.length
 row:∀i (hi:i<t.length),t[i].length=(t.getD 0 []).length
 wd:(t.getD 0 []).length<=1000
 cut:∀x∈ae,(x.length:Int)=m.ah/\∀y∈x,0<=y/\y<m.aq
 key:∀x∈ae,fF m x=true
theorem V4 {m:aL} {t ae:lL} (hs:eV m t=true) (hl:ae.length<=t.length) (hk:∀x∈ae,fF m x=true):M9 m t ae:=by have ky:=lR hs;obtain ⟨⟨n1,n2⟩,n3,n4⟩:=aO ky;obtain ⟨k1,k2,k3,k4,k5⟩:=iW hs;exact ⟨ky,⟨⟨by omega,by omega⟩,by omega,by omega⟩,by omega,by omega,hl,k5,by omega,fun x hx=>gw (hk x hx),hk⟩
theorem ja {m:aL} {t ae:lL} (h:bm m t ae=true):M9 m t ae:=by obtain ⟨hs,hc⟩:=tB h;obtain ⟨c1,c2⟩:=dJ hc;exact V4 hs (by omega) fun x hx=>c2 x hx
theorem tS {m:aL} {t ae:lL} (h:M9 m t ae) (k:Nat):((bT m t ae k).length:Int)=m.ah/\∀x∈bT m t ae k,x.length<=8:=by refine ⟨by rw [kW];have:=h.num;omega,fun x hx=> ?_⟩;have:=iF m t ae _ x hx;have:=h.num;omega
theorem Dn (m:aL):Fn pG 99 [kV m] true (· = .aZ [eI (if a6 m=true then iK m else 0),eI (if a6 m=true then 0 else 1)]):=by
 refine Fn.av 9 [.tmp 2,.tmp 3] func99 (hv:= ?_);have hi:=fE m;rcases hm:a6 m with _|_
 . rw [hm] at hi;rw [if_neg (by simp),if_neg (by simp)];simp -dsimp -implicitDefEqProofs only [go_sem];refine ab hi ?_;simp -dsimp -implicitDefEqProofs only [go_sem]
 rw [hm] at hi;have hc:=lW m hm;rw [if_pos rfl,if_pos rfl];simp -dsimp -implicitDefEqProofs only [go_sem];refine ab hi ?_;simp -dsimp -implicitDefEqProofs only [go_sem];refine ab hc ?_;simp -dsimp -implicitDefEqProofs only [go_sem];all_goals (first|exact rfl|skip)
theorem Ja (m:aL) (t ae:lL) (h:t.length<=1048576) (h2:∀x∈t,x.length<=1048576) (h3:ae.length<=1048576) (h4:∀x∈ae,x.length<=1048576):Fn pG 118 [jR m t,aR ae] false (· = .aZ [pX (if bY m t ae=0 then aA m t ae (t.getD 0 []).length else []),eI (bY m t ae)]):=by
 refine Fn.vK (Fn.mono (post:=fun x=>sS x (.aZ [pX (if bY m t ae=0 then aA m t ae (t.getD 0 []).length else []),eI (bY m t ae)])) (Fn.cg 16 [.tmp 4,.tmp 5] func118 (hv:= ?_)) fun x hx=>⟨_,hx,rfl⟩);have hc:=qT m t ae h h2 h3 h4;by_cases h0:bY m t ae=0
 . obtain ⟨hs,eW⟩:=ir h0;obtain ⟨c1,c2⟩:=dJ eW;have hF:=V4 hs (by omega) fun x hx=>c2 x hx;have hp:=gv m t ae hF.pR hF.tl hF.le hF.t0 hF.row hF.wd hF.cut;rw [if_pos h0];rw [h0] at hc ⊢;have e:((0:Int) != 0)=false:=rfl;simp -dsimp -implicitDefEqProofs only [go_sem];refine ab hc ?_;simp -dsimp -implicitDefEqProofs only [go_sem,e];refine ax hp (by simp [ay,ao,au,aH]) ?_;simp -dsimp -implicitDefEqProofs only [go_sem]
 have e:(bY m t ae != 0)=true:=bne_iff_ne.2 h0;rw [if_neg h0];simp -dsimp -implicitDefEqProofs only [go_sem];refine ab hc ?_;simp -dsimp -implicitDefEqProofs only [go_sem,e]
theorem Jb (m:aL) (t ae:lL) (h:t.length<=1048576) (h2:∀x∈t,x.length<=1048576) (h3:ae.length<=1048576) (h4:∀x∈ae,x.length<=1048576):Fn pG 101 [jR m t,aR ae] false (· = .aZ [pX (if bY m t ae=0 then aA m t ae (t.getD 0 []).length else []),eI (bY m t ae)]):=by
 refine Fn.vK (Fn.mono (post:=fun x=>sS x (.aZ [pX (if bY m t ae=0 then aA m t ae (t.getD 0 []).length else []),eI (bY m t ae)])) (Fn.cg 16 [.tmp 4,.tmp 5] func101 (hv:= ?_)) fun x hx=>⟨_,hx,rfl⟩);have hc:=tC m t ae h h2 h3 h4;by_cases h0:bY m t ae=0
 . obtain ⟨hs,eW⟩:=ir h0;obtain ⟨c1,c2⟩:=dJ eW;have hF:=V4 hs (by omega) fun x hx=>c2 x hx;have hp:=kX m t ae hF.pR (by omega) hF.le hF.t0 hF.row (by have:=hF.wd;omega) fun x hx=>(hF.cut x hx).1;rw [if_pos h0];rw [h0] at hc ⊢;have e:((0:Int) != 0)=false:=rfl;simp -dsimp -implicitDefEqProofs only [go_sem];refine ab hc ?_;simp -dsimp -implicitDefEqProofs only [go_sem,e];refine ax hp (by simp [ay,ao,au,aH]) ?_;simp -dsimp -implicitDefEqProofs only [go_sem]
 have e:(bY m t ae != 0)=true:=bne_iff_ne.2 h0;rw [if_neg h0];simp -dsimp -implicitDefEqProofs only [go_sem];refine ab hc ?_;simp -dsimp -implicitDefEqProofs only [go_sem,e]
def mT (m:aL) (t ae:lL):lL:=if bY m t ae=0 then gS m t ae else []
theorem tT (m:aL) (t ae:lL) (h:t.length<=1048576) (h2:∀x∈t,x.length<=1048576) (h3:ae.length<=1048576) (h4:∀x∈ae,x.length<=1048576):Fn pG 178 [jR m t,aR ae] false (· = .aZ [aR (mT m t ae),eI (bY m t ae)]):=by
 refine Fn.vK (Fn.mono (post:=fun x=>sS x (.aZ [aR (mT m t ae),eI (bY m t ae)])) (Fn.cg 16 [.tmp 4,.tmp 5] func178 (hv:= ?_)) fun x hx=>⟨_,hx,rfl⟩);have hc:=qT m t ae h h2 h3 h4;unfold mT;by_cases h0:bY m t ae=0
 . obtain ⟨hs,eW⟩:=ir h0;obtain ⟨c1,c2⟩:=dJ eW;have hF:=V4 hs (by omega) fun x hx=>c2 x hx;have hp:=nI m t ae hF.pR hF.tl hF.le hF.t0 hF.row hF.wd hF.cut;rw [if_pos h0];rw [h0] at hc ⊢;have e:((0:Int) != 0)=false:=rfl;simp -dsimp -implicitDefEqProofs only [go_sem];refine ab hc ?_;simp -dsimp -implicitDefEqProofs only [go_sem,e];refine ax hp (by simp [ay,ao,au,aH]) ?_;simp -dsimp -implicitDefEqProofs only [go_sem]
 have e:(bY m t ae != 0)=true:=bne_iff_ne.2 h0;rw [if_neg h0];simp -dsimp -implicitDefEqProofs only [go_sem];refine ab hc ?_;simp -dsimp -implicitDefEqProofs only [go_sem,e]
theorem tU (m:aL) (t ae:lL) (h:t.length<=1048576) (h2:∀x∈t,x.length<=1048576) (h3:ae.length<=1048576) (h4:∀x∈ae,x.length<=1048576):Fn pG 97 [jR m t,aR ae] false (· = .aZ [aR (mT m t ae),eI (bY m t ae)]):=by
 refine Fn.vK (Fn.mono (post:=fun x=>sS x (.aZ [aR (mT m t ae),eI (bY m t ae)])) (Fn.cg 16 [.tmp 4,.tmp 5] func97 (hv:= ?_)) fun x hx=>⟨_,hx,rfl⟩);have hc:=tC m t ae h h2 h3 h4;unfold mT;by_cases h0:bY m t ae=0
 . obtain ⟨hs,eW⟩:=ir h0;obtain ⟨c1,c2⟩:=dJ eW;have hF:=V4 hs (by omega) fun x hx=>c2 x hx;have hp:=qR m t ae hF.pR (by have:=hF.tl;omega) hF.le hF.t0 hF.row hF.wd fun x hx=>(hF.cut x hx).1;rw [if_pos h0];rw [h0] at hc ⊢;have e:((0:Int) != 0)=false:=rfl;simp -dsimp -implicitDefEqProofs only [go_sem];refine ab hc ?_;simp -dsimp -implicitDefEqProofs only [go_sem,e];refine ax hp (by simp [ay,ao,au,aH]) ?_;simp -dsimp -implicitDefEqProofs only [go_sem]
 have e:(bY m t ae != 0)=true:=bne_iff_ne.2 h0;rw [if_neg h0];simp -dsimp -implicitDefEqProofs only [go_sem];refine ab hc ?_;simp -dsimp -implicitDefEqProofs only [go_sem,e]
def fT (l:lL):Int:=(l.map fun s=>(s.length:Int)-1).sum
theorem B6 (l:lL) (i:Nat) (hi:i<l.length):fT (l.take (i+1))=fT (l.take i)+((l[i].length:Int)-1):=by rw [aP hi,fT,bR,List.sum_append];simp [fT]
theorem Dp (l:lL) (h:∀x∈l,x.length<=8): -(l.length:Int)<=fT l/\fT l<=7*l.length:=by
 induction l with
 |nil=>simp [fT]
 |cons x r ih=>
  have h1:=h x (List.mem_cons_self ..);have h2:=ih fun y hy=>h y (List.mem_cons_of_mem _ hy);have e:fT (x::r)=((x.length:Int)-1)+fT r:=by simp [fT]
  rw [e,bW];omega
theorem Jc (l:lL) (h:l.length<=1000) (h2:∀x∈l,x.length<=8):Fn pG 266 [sy l] true (· =eI (fT l)):=by
 refine Fn.av 20 [.tmp 2] func266 (hv:= ?_);have hb:∀i, -(1000:Int)<=fT (l.take i)/\fT (l.take i)<=7000:=fun i=>by
  have:=Dp (l.take i) fun x hx=>h2 x (jd hx);have:(l.take i).length<=1000:=by simp;omega
  omega
 simp -dsimp -implicitDefEqProofs only [go_sem];refine ak.up [7,8] [15] [] l.length (fun _=>True) (fun i=>[(3,eI (fT (l.take i))),(9,eI i)]) (fun _=>[]) trivial ?_ rfl (fun i hi _=> ?_) (fun _=> ?_)
 . simp -dsimp -implicitDefEqProofs only [go_sem];all_goals first|rfl|skip
 . have gi:=get_some hi;have hx:=h2 _ (uq9 hi);have b1:=hb i;rw [B6 l i hi];generalize fT (l.take i)=W at*;generalize l[i]=x at*;simp -dsimp -implicitDefEqProofs only [pz,bC,bD,bx,↓reduceIte,aT];simp -dsimp -implicitDefEqProofs only [go_sem,aG hi,gi];((with_reducible and_intros);all_goals try first|omega|(refine ⟨?_,?_⟩<;>omega)|exact rfl)
 simp -dsimp -implicitDefEqProofs only [pz,bC,bD,bx,↓reduceIte,aT];simp -dsimp -implicitDefEqProofs only [go_sem,aC,aY]
theorem Gm (l:lL) (h:l.length<=1000) (h2:∀x∈l,x.length<=8):Fn pG 194 [sy l] true (· =eI (fT l)):=by
 refine Fn.av 22 [.tmp 2] func194 (hv:= ?_);have hb:∀i, -(1000:Int)<=fT (l.take i)/\fT (l.take i)<=7000:=fun i=>by
  have:=Dp (l.take i) fun x hx=>h2 x (jd hx);have:(l.take i).length<=1000:=by simp;omega
  omega
 simp -dsimp -implicitDefEqProofs only [go_sem];refine ak.up [1] [8,18] [] l.length (fun _=>True) (fun i=>[(3,eI (fT (l.take i))),(4,eI i)]) (fun _=>[]) trivial ?_ rfl (fun i hi _=> ?_) (fun _=> ?_)
 . simp -dsimp -implicitDefEqProofs only [go_sem];all_goals first|rfl|skip
 . have gi:=get_some hi;have hx:=h2 _ (uq9 hi);have b1:=hb i;rw [B6 l i hi];generalize fT (l.take i)=W at*;generalize l[i]=x at*;simp -dsimp -implicitDefEqProofs only [pz,bC,bD,bx,↓reduceIte,aT];simp -dsimp -implicitDefEqProofs only [go_sem,aG hi,gi];((with_reducible and_intros);all_goals try first|omega|(refine ⟨?_,?_⟩<;>omega)|exact rfl);all_goals first|(congr 1;omega)|(first|omega|(refine ⟨?_,?_⟩<;>omega)|exact rfl|(simp;done)|skip)
 simp -dsimp -implicitDefEqProofs only [pz,bC,bD,bx,↓reduceIte,aT];simp -dsimp -implicitDefEqProofs only [go_sem,aC,aY]
def j8 (ls:List lL):Int:=(ls.map fT).sum
theorem B7 (ls:List lL) (i:Nat) (hi:i<ls.length):j8 (ls.take (i+1))=j8 (ls.take i)+fT ls[i]:=by rw [aP hi,j8,bR,List.sum_append];simp [j8]
theorem Kq (ls:List lL) (h:∀l∈ls, -1000<=fT l/\fT l<=7000): -1000*(ls.length:Int)<=j8 ls/\j8 ls<=7000*ls.length:=by
 induction ls with
 |nil=>simp [j8]
 |cons x r ih=>
  have h1:=h x (List.mem_cons_self ..);have h2:=ih fun y hy=>h y (List.mem_cons_of_mem _ hy);have e:j8 (x::r)=fT x+j8 r:=by simp [j8]
  rw [e,bW];omega
theorem lY {m:aL} {t ae:lL} {n:Nat} {l:lL} (h:l∈aA m t ae n):∃k,k<n/\l=bT m t ae k:=by simp only [aA,List.mem_map,List.mem_range] at h;obtain ⟨k,hk,rfl⟩:=h;exact ⟨k,hk,rfl⟩
theorem tV {m:aL} {t ae:lL} (hF:M9 m t ae) (n:Nat):∀l∈aA m t ae n,l.length<=1000/\(∀x∈l,x.length<=8)/\ -1000<=fT l/\fT l<=7000:=by intro l hl;obtain ⟨k,_,rfl⟩:=lY hl;obtain ⟨h1,h2⟩:=tS hF k;have:=hF.num;have:=Dp _ h2;exact ⟨by omega,h2,by omega,by omega⟩
def og (m:aL) (t ae:lL):Int:=j8 (aA m t ae (t.getD 0 []).length)
theorem yQ (m:aL) (t ae:lL) (hF:M9 m t ae):Fn pG 234 [jR m t,aR ae] true (· =eI (og m t ae)):=by
 refine Fn.av 22 [.tmp 4] func234 (hv:= ?_);have hp:=gv m t ae hF.pR hF.tl hF.le hF.t0 hF.row hF.wd hF.cut;have hw:=tV hF (t.getD 0 []).length;have hll:(aA m t ae (t.getD 0 []).length).length<=1000:=by rw [aA,cr,bB];exact hF.wd
 unfold og;generalize aA m t ae (t.getD 0 []).length=ls at*;have hb:∀i, -(1000000:Int)<=j8 (ls.take i)/\j8 (ls.take i)<=7000000:=fun i=>by
  have:=Kq (ls.take i) fun x hx=>(hw x (jd hx)).2.2;have:(ls.take i).length<=1000:=by simp;omega
  omega
 simp -dsimp -implicitDefEqProofs only [go_sem];refine ax hp (by simp [ay,ao,au,aH]) ?_;simp -dsimp -implicitDefEqProofs only [go_sem];refine ak.up [10,11] [7,18] [] ls.length (fun _=>True) (fun i=>[(5,eI (j8 (ls.take i))),(12,eI i)]) (fun _=>[]) trivial ?_ rfl (fun i hi _=> ?_) (fun _=> ?_)
 . simp -dsimp -implicitDefEqProofs only [go_sem];all_goals first|rfl|skip
 . have gi:=get_some hi;have hx:=hw _ (uq9 hi);have b1:=hb i;have hcw:=Jc ls[i] hx.1 hx.2.1;rw [B7 ls i hi];generalize j8 (ls.take i)=W at*;generalize ls[i]=x at*;simp -dsimp -implicitDefEqProofs only [pz,bC,bD,bx,↓reduceIte,aT];simp -dsimp -implicitDefEqProofs only [go_sem,aG hi,gi];((with_reducible and_intros);all_goals try (omega));refine ab hcw ?_;simp -dsimp -implicitDefEqProofs only [go_sem];((with_reducible and_intros);all_goals try first|(refine ⟨?_,?_⟩<;>omega)|exact rfl)
 simp -dsimp -implicitDefEqProofs only [pz,bC,bD,bx,↓reduceIte,aT];simp -dsimp -implicitDefEqProofs only [go_sem,aC,aY]
theorem vL (m:aL) (t ae:lL) (h:t.length<=1048576) (h2:∀x∈t,x.length<=1048576) (h3:ae.length<=1048576) (h4:∀x∈ae,x.length<=1048576):Fn pG 181 [jR m t,aR ae] true (· = .aZ [eI (if bm m t ae=true then og m t ae else 0),eI (if bm m t ae=true then 0 else 1)]):=by
 refine Fn.av 16 [.tmp 4,.tmp 5] func181 (hv:= ?_);have hc:=kp m t ae h h2 h3 h4;rcases hd:bm m t ae with _|_
 . rw [hd,if_neg (by simp)] at hc;rw [if_neg (by simp),if_neg (by simp)];have e:((1:Int) != 0)=true:=rfl;simp -dsimp -implicitDefEqProofs only [go_sem];refine ab hc ?_;simp -dsimp -implicitDefEqProofs only [go_sem,e]
 rw [hd,if_pos rfl] at hc;rw [if_pos rfl,if_pos rfl];have hs:=yQ m t ae (ja hd);have e:((0:Int) != 0)=false:=rfl;simp -dsimp -implicitDefEqProofs only [go_sem];refine ab hc ?_;simp -dsimp -implicitDefEqProofs only [go_sem,e];refine ab hs ?_;simp -dsimp -implicitDefEqProofs only [go_sem]
theorem Gn (m:aL) (t ae:lL) (hF:M9 m t ae):Fn pG 144 [jR m t,aR ae] true (· =eI (og m t ae)):=by
 refine Fn.av 25 [.tmp 4] func144 (hv:= ?_);have hp:=kX m t ae hF.pR (by have:=hF.tl;have:=hF.le;omega) hF.le hF.t0 hF.row (by have:=hF.wd;omega) fun x hx=>(hF.cut x hx).1;have hw:=tV hF (t.getD 0 []).length;have hll:(aA m t ae (t.getD 0 []).length).length<=1000:=by rw [aA,cr,bB];exact hF.wd
 unfold og;generalize aA m t ae (t.getD 0 []).length=ls at*;have hb:∀i, -(1000000:Int)<=j8 (ls.take i)/\j8 (ls.take i)<=7000000:=fun i=>by
  have:=Kq (ls.take i) fun x hx=>(hw x (jd hx)).2.2;have:(ls.take i).length<=1000:=by simp;omega
  omega
 simp -dsimp -implicitDefEqProofs only [go_sem];refine ax hp (by simp [ay,ao,au,aH]) ?_;simp -dsimp -implicitDefEqProofs only [go_sem];refine ak.up [5] [13,22] [] ls.length (fun _=>True) (fun i=>[(6,eI (j8 (ls.take i))),(7,eI i)]) (fun _=>[]) trivial ?_ rfl (fun i hi _=> ?_) (fun _=> ?_)
 . simp -dsimp -implicitDefEqProofs only [go_sem];all_goals first|rfl|skip
 . have gi:=get_some hi;have hx:=hw _ (uq9 hi);have b1:=hb i;have hcw:=Gm ls[i] hx.1 hx.2.1;rw [B7 ls i hi];generalize j8 (ls.take i)=W at*;generalize ls[i]=x at*;simp -dsimp -implicitDefEqProofs only [pz,bC,bD,bx,↓reduceIte,aT];simp -dsimp -implicitDefEqProofs only [go_sem,aG hi,gi];((with_reducible and_intros);all_goals try (omega));refine ab hcw ?_;simp -dsimp -implicitDefEqProofs only [go_sem];((with_reducible and_intros);all_goals try first|(refine ⟨?_,?_⟩<;>omega)|exact rfl)
 simp -dsimp -implicitDefEqProofs only [pz,bC,bD,bx,↓reduceIte,aT];simp -dsimp -implicitDefEqProofs only [go_sem,aC,aY]
theorem vM (m:aL) (t ae:lL) (h:t.length<=1048576) (h2:∀x∈t,x.length<=1048576) (h3:ae.length<=1048576) (h4:∀x∈ae,x.length<=1048576):Fn pG 100 [jR m t,aR ae] true (· = .aZ [eI (if bm m t ae=true then og m t ae else 0),eI (if bm m t ae=true then 0 else 1)]):=by
 refine Fn.av 16 [.tmp 4,.tmp 5] func100 (hv:= ?_);have hc:=pP m t ae h h2 h3 h4;rcases hd:bm m t ae with _|_
 . rw [hd,if_neg (by simp)] at hc;rw [if_neg (by simp),if_neg (by simp)];have e:((1:Int) != 0)=true:=rfl;simp -dsimp -implicitDefEqProofs only [go_sem];refine ab hc ?_;simp -dsimp -implicitDefEqProofs only [go_sem,e]
 rw [hd,if_pos rfl] at hc;rw [if_pos rfl,if_pos rfl];have hs:=Gn m t ae (ja hd);have e:((0:Int) != 0)=false:=rfl;simp -dsimp -implicitDefEqProofs only [go_sem];refine ab hc ?_;simp -dsimp -implicitDefEqProofs only [go_sem,e];refine ab hs ?_;simp -dsimp -implicitDefEqProofs only [go_sem]
def bI (ls:List lL) (c:lI):Nat->lI
 |0=>[]
 |n+1=>if dX (ls.getD n []) c=true then bI ls c n++[(n:Int)] else bI ls c n
theorem gA (ls:List lL) (c:lI):∀n,(bI ls c n).length<=n
 |0=>gB _
 |n+1=>by
  have:=gA ls c n;rw [bI];split
  . simp;omega
  omega
theorem tW (ls:List lL) (c:lI):∀n,∀x∈bI ls c n,0<=x/\x<n
 |0,x,h=>by cases h
 |n+1,x,h=>by
  rw [bI] at h;split at h
  . rcases List.mem_append.1 h with h|h
    . have:=tW ls c n x h;omega
    simp at h;omega
  have:=tW ls c n x h;omega
theorem mb (ls:List lL) (c:lI) (h:ls.length<=1000) (hl:∀l∈ls,c.length<=l.length/\l.length<=1048576/\∀x∈l,x.length<=1048576):Fn pG 169 [pX ls,aM c] true (· =aM (bI ls c ls.length)):=by
 refine Fn.av 25 [.tmp 4] func169 (hv:= ?_);simp -dsimp -implicitDefEqProofs only [go_sem];refine ak.up [1,9,10] [7,18,21,22] [8] ls.length (fun _=>True) (fun i=>[(5,.ref 8 0 0 (bI ls c i).length),(11,eI i)]) (fun i=>[(8,.row 0 ⟨1,false⟩ true ((bI ls c i).map eI))]) trivial ?_ rfl (fun i hi _=> ?_) (fun _=> ?_)
 . simp -dsimp -implicitDefEqProofs only [go_sem,bI,bQ,cP]
 . have gi:=get_some hi;have hx:=hl _ (uq9 hi);have ho:=Df ls[i] c hx.1 hx.2.1 hx.2.2;have eg:ls.getD i []=ls[i]:=by rw [uq7,gi];rfl
   have hdl:=gA ls c i;rw [bI,eg];generalize bI ls c i=D at*;have tD:cL D.length (D.map eI)=D.map eI:=bg (by simp);generalize ls[i]=l at*;rcases hb:dX l c with _|_
   . rw [hb] at ho;rw [if_neg (by simp)];simp -dsimp -implicitDefEqProofs only [pz,bC,bD,bx,↓reduceIte,aT];simp -dsimp -implicitDefEqProofs only [go_sem,aG hi,gi];((with_reducible and_intros);all_goals try (omega));refine ab ho ?_;simp -dsimp -implicitDefEqProofs only [go_sem];((with_reducible and_intros);all_goals try first|(refine ⟨?_,?_⟩<;>omega)|exact rfl)
   rw [hb] at ho;rw [if_pos rfl,bR,hZ,dD,List.length_singleton];simp -dsimp -implicitDefEqProofs only [pz,bC,bD,bx,↓reduceIte,aT];simp -dsimp -implicitDefEqProofs only [go_sem,aG hi,gi];((with_reducible and_intros);all_goals try (omega));refine ab ho ?_;simp -dsimp -implicitDefEqProofs only [go_sem,tD];((with_reducible and_intros);all_goals try first|omega|(refine ⟨?_,?_⟩<;>omega)|exact rfl)
 generalize hD:bI ls c ls.length=D at*;simp -dsimp -implicitDefEqProofs only [pz,bC,bD,bx,↓reduceIte,aT];simp -dsimp -implicitDefEqProofs only [go_sem,aC];all_goals first|(simp;done)|(first|omega|(refine ⟨?_,?_⟩<;>omega)|exact rfl|(simp;done)|skip)
theorem qZ {m:aL} {t ae:lL} (hF:M9 m t ae) {c:lI} (hc:(c.length:Int)=m.ah) (n:Nat):∀l∈aA m t ae n,c.length<=l.length/\l.length<=1048576/\∀x∈l,x.length<=1048576:=by intro l hl;obtain ⟨k,_,rfl⟩:=lY hl;obtain ⟨h1,h2⟩:=tS hF k;have:=hF.num;exact ⟨by omega,by omega,fun x hx=>by have:=h2 x hx;omega⟩
def Gp (m:aL) (t ae:lL) (c:lI):lI:=bI (aA m t ae (t.getD 0 []).length) c (t.getD 0 []).length
def B8 (m:aL) (t ae:lL) (c:lI):lI × Int:=if bm m t ae=true then if fault m c=0 then (Gp m t ae c,0) else ([],2) else ([],1)
theorem Qy {m:aL} {t ae:lL} {c:lI}:(B8 m t ae c).1.length<=12/\∀x∈(B8 m t ae c).1,0<=x/\x<=1000000000000:=by
 unfold B8;split
 . rename_i h;obtain ⟨k1,k2,k3,k4,k5⟩:=iW (tB h).1;split
   . refine ⟨Nat.le_trans (gA _ _ _) k4,fun x hx=> ?_⟩;have:=tW _ _ _ x hx;omega
   simp
 simp
theorem yR (m:aL) (t ae:lL) (h:t.length<=1048576) (h2:∀x∈t,x.length<=1048576) (h3:ae.length<=1048576) (h4:∀x∈ae,x.length<=1048576) (c:lI) (h5:c.length<=1048576):Fn pG 121 [jR m t,aR ae,aM c] true (· = .aZ [aM (B8 m t ae c).1,eI (B8 m t ae c).2]):=by
 refine Fn.av 25 [.tmp 6,.tmp 7] func121 (hv:= ?_);have hc:=kp m t ae h h2 h3 h4;unfold B8;rcases hd:bm m t ae with _|_
 . rw [hd,if_neg (by simp)] at hc;rw [if_neg (by simp)];have e:((1:Int) != 0)=true:=rfl;simp -dsimp -implicitDefEqProofs only [go_sem];refine ab hc ?_;simp -dsimp -implicitDefEqProofs only [go_sem,e]
 rw [hd,if_pos rfl] at hc;have hF:=ja hd;have hk:=De m c hF.pR h5;have e:((0:Int) != 0)=false:=rfl;rw [if_pos rfl];by_cases hf:fault m c=0
 . have e2:fF m c=true:=beq_iff_eq.2 hf;rw [e2] at hk;rw [if_pos hf];have hcl:=(gw e2).1;have hp:=gv m t ae hF.pR hF.tl hF.le hF.t0 hF.row hF.wd hF.cut;have hll:(aA m t ae (t.getD 0 []).length).length=(t.getD 0 []).length:=by rw [aA,cr,bB]
   have ho:=mb (aA m t ae (t.getD 0 []).length) c (by rw [hll];exact hF.wd) (qZ hF hcl _);rw [hll] at ho;unfold Gp;simp -dsimp -implicitDefEqProofs only [go_sem];refine ab hc ?_;simp -dsimp -implicitDefEqProofs only [go_sem,e];refine ab hk ?_;simp -dsimp -implicitDefEqProofs only [go_sem];refine ax hp (by simp [ay,ao,au,aH]) ?_;simp -dsimp -implicitDefEqProofs only [go_sem];refine ab ho ?_;simp -dsimp -implicitDefEqProofs only [go_sem];all_goals first|(simp;done)|(first|omega|(refine ⟨?_,?_⟩<;>omega)|exact rfl|(simp;done)|skip)
 have e2:fF m c=false:=beq_eq_false_iff_ne.2 hf;rw [e2] at hk;rw [if_neg hf];simp -dsimp -implicitDefEqProofs only [go_sem];refine ab hc ?_;simp -dsimp -implicitDefEqProofs only [go_sem,e];refine ab hk ?_;simp -dsimp -implicitDefEqProofs only [go_sem]
theorem yS (m:aL) (t ae:lL) (hF:M9 m t ae) (c:lI) (hc:(c.length:Int)=m.ah):Fn pG 150 [jR m t,aR ae,aM c] true (· =aM (Gp m t ae c)):=by
 refine Fn.av 31 [.tmp 6] func150 (hv:= ?_);have hp:=kX m t ae hF.pR (by have:=hF.tl;have:=hF.le;omega) hF.le hF.t0 hF.row (by have:=hF.wd;omega) fun x hx=>(hF.cut x hx).1;have hl:=qZ hF hc (t.getD 0 []).length;have hll:(aA m t ae (t.getD 0 []).length).length=(t.getD 0 []).length:=by rw [aA,cr,bB]
 have hwd:=hF.wd;unfold Gp;generalize aA m t ae (t.getD 0 []).length=ls at*;rw [←hll] at hwd ⊢;simp -dsimp -implicitDefEqProofs only [go_sem];refine ax hp (by simp [ay,ao,au,aH]) ?_;simp -dsimp -implicitDefEqProofs only [go_sem];refine ak.up [2,7] [16,25,28,29] [13] ls.length (fun _=>True) (fun i=>[(8,.ref 13 0 0 (bI ls c i).length),(9,eI i)]) (fun i=>[(13,.row 0 ⟨1,false⟩ true ((bI ls c i).map eI))]) trivial ?_ rfl (fun i hi _=> ?_) (fun _=> ?_)
 . simp -dsimp -implicitDefEqProofs only [go_sem,bI,bQ,cP]
 . have gi:=get_some hi;have hx:=hl _ (uq9 hi);have ho:=qQ ls[i] c hx.1 hx.2.1 hx.2.2;have eg:ls.getD i []=ls[i]:=by rw [uq7,gi];rfl
   have hdl:=gA ls c i;rw [bI,eg];generalize bI ls c i=D at*;have tD:cL D.length (D.map eI)=D.map eI:=bg (by simp);generalize ls[i]=l at*;rcases hb:dX l c with _|_
   . rw [hb] at ho;rw [if_neg (by simp)];simp -dsimp -implicitDefEqProofs only [pz,bC,bD,bx,↓reduceIte,aT];simp -dsimp -implicitDefEqProofs only [go_sem,aG hi,gi];((with_reducible and_intros);all_goals try (omega));refine ab ho ?_;simp -dsimp -implicitDefEqProofs only [go_sem];((with_reducible and_intros);all_goals try first|(refine ⟨?_,?_⟩<;>omega)|exact rfl)
   rw [hb] at ho;rw [if_pos rfl,bR,hZ,dD,List.length_singleton];simp -dsimp -implicitDefEqProofs only [pz,bC,bD,bx,↓reduceIte,aT];simp -dsimp -implicitDefEqProofs only [go_sem,aG hi,gi];((with_reducible and_intros);all_goals try (omega));refine ab ho ?_;simp -dsimp -implicitDefEqProofs only [go_sem,tD];((with_reducible and_intros);all_goals try first|omega|(refine ⟨?_,?_⟩<;>omega)|exact rfl)
 generalize hD:bI ls c ls.length=D at*;simp -dsimp -implicitDefEqProofs only [pz,bC,bD,bx,↓reduceIte,aT];simp -dsimp -implicitDefEqProofs only [go_sem,aC];all_goals first|(simp;done)|(first|omega|(refine ⟨?_,?_⟩<;>omega)|exact rfl|(simp;done)|skip)
theorem Qz (m:aL) (t ae:lL) (h:t.length<=1048576) (h2:∀x∈t,x.length<=1048576) (h3:ae.length<=1048576) (h4:∀x∈ae,x.length<=1048576) (c:lI) (h5:c.length<=1048576):Fn pG 149 [jR m t,aR ae,aM c] true (· =eI (B8 m t ae c).2):=by
 refine Fn.av 21 [.tmp 6] func149 (hv:= ?_);have hc:=pP m t ae h h2 h3 h4;unfold B8;rcases hd:bm m t ae with _|_
 . rw [hd,if_neg (by simp)] at hc;rw [if_neg (by simp)];have e:((1:Int)==0)=false:=rfl;simp -dsimp -implicitDefEqProofs only [go_sem];refine ab hc ?_;simp -dsimp -implicitDefEqProofs only [go_sem,e]
 rw [hd,if_pos rfl] at hc;have hF:=ja hd;have hk:=nG m c hF.pR h5;have e:((0:Int)==0)=true:=rfl;rw [if_pos rfl];by_cases hf:fault m c=0
 . have e3:((0:Int) != 0)=false:=rfl;rw [hf] at hk;rw [if_pos hf];simp -dsimp -implicitDefEqProofs only [go_sem];refine ab hc ?_;simp -dsimp -implicitDefEqProofs only [go_sem,e];refine ab hk ?_;simp -dsimp -implicitDefEqProofs only [go_sem,e3]
 have e3:(fault m c != 0)=true:=bne_iff_ne.2 hf;rw [if_neg hf];simp -dsimp -implicitDefEqProofs only [go_sem];refine ab hc ?_;simp -dsimp -implicitDefEqProofs only [go_sem,e];refine ab hk ?_;simp -dsimp -implicitDefEqProofs only [go_sem,e3]
theorem yT (m:aL) (t ae:lL) (h:t.length<=1048576) (h2:∀x∈t,x.length<=1048576) (h3:ae.length<=1048576) (h4:∀x∈ae,x.length<=1048576) (c:lI) (h5:c.length<=1048576):Fn pG 104 [jR m t,aR ae,aM c] true (· = .aZ [aM (B8 m t ae c).1,eI (B8 m t ae c).2]):=by
 refine Fn.av 20 [.tmp 6,.tmp 7] func104 (hv:= ?_);have hc:=Qz m t ae h h2 h3 h4 c h5;unfold B8 at hc ⊢;rcases hd:bm m t ae with _|_
 . rw [hd,if_neg (by simp)] at hc;rw [if_neg (by simp)];have e:((1:Int) != 0)=true:=rfl;simp -dsimp -implicitDefEqProofs only [go_sem];refine ab hc ?_;simp -dsimp -implicitDefEqProofs only [go_sem,e]
 rw [hd,if_pos rfl] at hc;have hF:=ja hd;rw [if_pos rfl];by_cases hf:fault m c=0
 . have e:((0:Int) != 0)=false:=rfl;rw [if_pos hf] at hc ⊢;have hD:=yS m t ae hF c (gw (beq_iff_eq.2 hf)).1;simp -dsimp -implicitDefEqProofs only [go_sem];refine ab hc ?_;simp -dsimp -implicitDefEqProofs only [go_sem,e];refine ab hD ?_;simp -dsimp -implicitDefEqProofs only [go_sem];all_goals first|(simp;done)|(first|omega|(refine ⟨?_,?_⟩<;>omega)|exact rfl|(simp;done)|skip)
 have e:((2:Int) != 0)=true:=rfl;rw [if_neg hf] at hc ⊢;simp -dsimp -implicitDefEqProofs only [go_sem];refine ab hc ?_;simp -dsimp -implicitDefEqProofs only [go_sem,e]
def DU (ks:lL) (k:lI):Bool:=ks.any fun x=>decide (x=k)
theorem QA {ks:lL} {k:lI} (h:∀i (hi:i<ks.length),decide (ks[i]=k)=false):DU ks k=false:=by unfold DU;rw [List.any_eq_false];intro x hx;obtain ⟨i,hi,rfl⟩:=List.getElem_of_mem hx;rw [h i hi];simp
theorem Kr {ks:lL} {k:lI} {i:Nat} (hi:i<ks.length) (h:decide (ks[i]=k)=true):DU ks k=true:=by unfold DU;rw [List.any_eq_true];exact ⟨_,uq9 hi,h⟩
theorem QB (ks:lL) (k:lI) (h:ks.length<=1048576) (h2:∀x∈ks,x.length<=1048576):Fn pG 193 [aR ks,aM k] true (· =eB (DU ks k)):=by
 refine Fn.av 18 [.tmp 4] func193 (hv:= ?_);simp -dsimp -implicitDefEqProofs only [go_sem];refine ak.up [0,1] [8,17] [] ks.length (fun i=>∀j (hj:j<ks.length),j<i->decide (ks[j]=k)=false) (fun i=>[(5,eI i)]) (fun _=>[]) (fun j _ h=>absurd h (fu _)) ?_ rfl (fun i hi hI=> ?_) (fun hI=> ?_)
 . simp -dsimp -implicitDefEqProofs only [go_sem]
 . have gi:=get_some hi;have hc:=M6 ks[i] k (by have:=h2 _ (uq9 hi);omega);rcases hv:decide (ks[i]=k) with _|_
   . rw [hv] at hc;have hI':∀j (hj:j<ks.length),j<i+1->decide (ks[j]=k)=false:=fun j hj h=>by
      by_cases hji:j=i
      . subst hji;exact hv
      exact hI j hj (by omega)
     clear hI hv;generalize ks[i]=x at*;simp -dsimp -implicitDefEqProofs only [pz,↓reduceIte,aT];simp -dsimp -implicitDefEqProofs only [go_sem,gi,aG hi];((with_reducible and_intros);all_goals try (omega));refine ab hc ?_;simp -dsimp -implicitDefEqProofs only [go_sem];((with_reducible and_intros);all_goals try first|omega|(refine ⟨?_,?_⟩<;>omega)|exact rfl)
   rw [hv] at hc;rw [Kr hi hv];clear hI hv;generalize ks[i]=x at*;simp -dsimp -implicitDefEqProofs only [pz,↓reduceIte,aT];simp -dsimp -implicitDefEqProofs only [go_sem,gi,aG hi];((with_reducible and_intros);all_goals try (omega));refine ab hc ?_;simp -dsimp -implicitDefEqProofs only [go_sem]
 rw [QA fun j hj=>hI j hj hj];simp -dsimp -implicitDefEqProofs only [pz,↓reduceIte,aT];simp -dsimp -implicitDefEqProofs only [go_sem,aC]
theorem yU (ks:lL) (k:lI) (h:ks.length<=1048576) (h2:∀x∈ks,x.length<=1048576):Fn pG 224 [aR ks,aM k] true (· =eB (DU ks k)):=by
 refine Fn.av 8 [.tmp 4] func224 (hv:= ?_);have zl:(∀i (hi:i<ks.length),decide (ks[i]=k)=false)->DU ks k=false:=fun h=>QA h;have hno:∀i (hi:i<ks.length),decide (ks[i]=k)=true->DU ks k=true:=fun i hi h=>Kr hi h;generalize DU ks k=ok at zl hno;simp -dsimp -implicitDefEqProofs only [go_sem];refine cn 400000 9 [.tmp 4] func74 rfl rfl rfl rfl rfl (by exact oT rfl) ?_;simp -dsimp -implicitDefEqProofs only [go_sem];refine cn 410000 19 [.tmp 4] func89 rfl rfl rfl rfl rfl (by exact oT rfl) ?_;simp -dsimp -implicitDefEqProofs only [go_sem];refine ak.up [0,1,7] [16] [] ks.length (fun i=>∀j (hj:j<ks.length),j<i->decide (ks[j]=k)=false) (fun i=>[(8,eI i)]) (fun _=>[]) (fun j _ h=>absurd h (fu _)) ?_ rfl (fun i hi hI=> ?_) (fun hI=> ?_)
 . simp -dsimp -implicitDefEqProofs only [go_sem]
 . have gi:=get_some hi;have li:=aG hi;have hc:=F6 ks[i] k (by have:=h2 _ (uq9 hi);omega);rcases hv:decide (ks[i]=k) with _|_
   . rw [hv] at hc;have hI':∀j (hj:j<ks.length),j<i+1->decide (ks[j]=k)=false:=fun j hj h=>by
      by_cases hji:j=i
      . subst hji;exact hv
      exact hI j hj (by omega)
     clear hno zl hI hv;generalize ks[i]=x at*;simp -dsimp -implicitDefEqProofs only [pz,bC,bD,bx,↓reduceIte,aT];simp -dsimp -implicitDefEqProofs only [go_sem,gi,li];refine ⟨⟨by omega,by omega⟩,?_⟩;refine cn 420000 7 [.tmp 3] func263 rfl rfl rfl rfl rfl (by exact oT rfl) ?_;simp -dsimp -implicitDefEqProofs only [go_sem]
     repeat' first
      |(with_reducible refine ai ?_ ?_)
      |(refine ab (hc) ?_;try simp -dsimp -implicitDefEqProofs only [go_sem, *])
     (all_goals try first|omega|(refine ⟨?_,?_⟩<;>omega)|exact rfl|(simp;done))
   rw [hv] at hc;have hn:=hno i hi hv;clear hno zl hI hv;subst hn;generalize ks[i]=x at*;simp -dsimp -implicitDefEqProofs only [pz,bC,bD,bx,↓reduceIte,aT];simp -dsimp -implicitDefEqProofs only [go_sem,gi,li];refine ⟨⟨by omega,by omega⟩,?_⟩;refine cn 420000 7 [.tmp 3] func263 rfl rfl rfl rfl rfl (by exact oT rfl) ?_;simp -dsimp -implicitDefEqProofs only [go_sem];repeat' (refine ab (hc) ?_;try simp -dsimp -implicitDefEqProofs only [go_sem, *])
   (all_goals try first|exact rfl|(simp;done))
 have hn:=zl fun j hj=>hI j hj hj;clear hno zl hI;subst hn;simp -dsimp -implicitDefEqProofs only [pz,bC,bD,bx,↓reduceIte,aT];simp -dsimp -implicitDefEqProofs only [go_sem,aC];(all_goals try first|exact rfl|(simp;done))
def Gq (ls:List lL) (k:lI) (n:Nat):Bool:=(ls.take n).any fun l=>dX l k
theorem B9 {ls:List lL} {k:lI} {n:Nat} (h:n<ls.length):Gq ls k (n+1)=(Gq ls k n||dX ls[n] k):=by unfold Gq;rw [aP h,List.any_append];simp
def Ks (ls:List lL) (ae:lL) (k:lI):Bool:=Gq ls k ls.length&& !DU ae k
def Tt (m:aL) (t ae:lL) (i:Nat):lL:=((bE m).take i).filter (Ks (aA m t ae (t.getD 0 []).length) ae)
def cq (m:aL) (t ae:lL):lL:=(bE m).filter (Ks (aA m t ae (t.getD 0 []).length) ae)
theorem QC {m:aL} {t ae:lL} {i:Nat} {k:lI} (h:(bE m)[i]? =some k):Tt m t ae (i+1)=Tt m t ae i++if Ks (aA m t ae (t.getD 0 []).length) ae k=true then [k] else []:=by unfold Tt;rw [List.take_add_one,h,List.filter_append];congr 1;simp only [DL,List.filter_cons,List.filter_nil]
theorem Kt (m:aL) (t ae:lL):Tt m t ae (bE m).length=cq m t ae:=by unfold Tt cq;rw [aY]
theorem Na {m:aL} (hm:a6 m=true):(bE m).length<=262144:=by have ⟨⟨n1,n2⟩,n3,n4⟩:=aO hm;have:(bE m).length<=8^6:=Nat.le_trans (ko m hm _ _) (Nat.pow_le_pow_right (by decide) (by omega));omega
theorem Ku {m:aL} (hm:a6 m=true) (t ae:lL) (i:Nat):(Tt m t ae i).length<=262144:=by unfold Tt;refine Nat.le_trans (List.length_filter_le ..) ?_;have:=Na hm;rw [List.length_take];omega
theorem ra {m:aL} (hm:a6 m=true) (t ae:lL):(cq m t ae).length<=262144:=by rw [←Kt];exact Ku hm t ae _
theorem o9 (m:aL) (t ae:lL) (hF:M9 m t ae):Fn pG 142 [jR m t,aR ae,eB true] false (· =aR (cq m t ae)):=by
 refine Fn.vK (Fn.mono (post:=fun x=>sS x (aR (cq m t ae))) (Fn.cg 60 [.tmp 6] func142 (hv:= ?_)) fun x hx=>⟨_,hx,rfl⟩);have hp:=kX m t ae hF.pR (by have:=hF.tl;have:=hF.le;omega) hF.le hF.t0 hF.row (by have:=hF.wd;omega) fun x hx=>(hF.cut x hx).1;have ky:=hF.pR;have vS:=hF.num;obtain ⟨k0,hk1,hf⟩:=yL ky;have hK:=fun k (hk:k∈bE m)=>kq (m:=m) (by omega) hk;have hH:=fun k=>QB ae k (by have:=hF.tl;have:=hF.le;omega) (fun x hx=>by have:=(hF.cut x hx).1;omega);have hO:=fun (k:lI) (hk:(k.length:Int)=m.ah)=>qZ hF hk (t.getD 0 []).length;have hll:(aA m t ae (t.getD 0 []).length).length<=1000:=by rw [aA,cr,bB];exact hF.wd
 have NB:=fun i k=>@QC m t ae i k;have hgl:=fun i=>Ku ky t ae i;have hge:=Kt m t ae;have hg0:Tt m t ae 0=[]:=rfl;generalize Tt m t ae=G at*;generalize aA m t ae (t.getD 0 []).length=ls at*;simp -dsimp -implicitDefEqProofs only [go_sem];refine ax hp (by simp [ay,ao,au,aH]) ?_;simp -dsimp -implicitDefEqProofs only [go_sem];refine ax hf (by simp [ay,ao,au,aH]) ?_;simp -dsimp -implicitDefEqProofs only [go_sem];refine ak.up [1,2,3,8] [26,37,45,50,51,56] [13] (bE m).length (fun i=>True) (fun i=>[(10,eB ((bE m)[i]?).isSome),(9,MQ ((bE m)[i]?)),(7,.ref 13 0 0 (G i).length)]) (fun i=>[(13,.row 0 ⟨1,false⟩ (G i).isEmpty ((G i).map aM))]) trivial ?_ rfl (fun i hi _=> ?_) (fun _=> ?_)
 . rw [hk1,hg0];simp -dsimp -implicitDefEqProofs only [go_sem,db,Option.isSome_some,List.isEmpty_nil,cP,bQ]
 . have gi:=get_some hi;have hki:=hK _ (uq9 hi);generalize (bE m)[i]=k at*;have hs:=NB i k gi;have Zn:=hgl i;have hnx:=tG m k ky hki.len hki.el;rw [yK (by omega) gi] at hnx;have hE:∀C:lL,C.isEmpty=false\/C.length=0:=fun C=>by cases C with|nil=>exact .inr rfl|cons=>exact .inl rfl
   have e2:=fun K:lL=>show (K++[k]).map aM=K.map aM++[aM k] by simp
   have e3:=fun K:lL=>show (K++[k]).isEmpty=false by simp
   have hkl:=hO k hki.len;have hhk:=hH k;clear NB hgl hO hH;generalize G i=K at*;generalize G (i+1)=K2 at*;rw [gi];generalize (bE m)[i+1]? =o at*;rw [Di] at hnx;clear hK;have tK:(K.map aM).take K.length=K.map aM:=bg (by simp);simp -dsimp -implicitDefEqProofs only [pz,bC,bD,bx,↓reduceIte,aT];simp -dsimp -implicitDefEqProofs only [go_sem,db,Option.isSome_some];refine ak.up [1,2,3,7,8,9] [26,37] [] ls.length (fun _=>True) (fun j=>[(12,eI j),(11,eB (Gq ls k j))]) (fun _=>[]) trivial ?_ rfl (fun j hj _=> ?_) (fun _=> ?_)
   . simp -dsimp -implicitDefEqProofs only [go_sem];(all_goals try (exact rfl))
   . have gj:=get_some hj;have lj:=aG hj;have hx:=hkl _ (uq9 hj);have hop:=qQ ls[j] k hx.1 hx.2.1 hx.2.2;rw [B9 hj];generalize ls[j]=l at*;rcases hb:Gq ls k j with _|_
     . rw [Bool.false_or];generalize dX l k=b at*;simp -dsimp -implicitDefEqProofs only [pz,bC,bD,bx,↓reduceIte,aT];simp -dsimp -implicitDefEqProofs only [go_sem,lj,gj];((with_reducible and_intros);all_goals try (omega));refine ab hop ?_;simp -dsimp -implicitDefEqProofs only [go_sem];((with_reducible and_intros);all_goals try first|(refine ⟨?_,?_⟩<;>omega)|exact rfl)
     rw [Bool.true_or];simp -dsimp -implicitDefEqProofs only [pz,bC,bD,bx,↓reduceIte,aT];simp -dsimp -implicitDefEqProofs only [go_sem,lj];((with_reducible and_intros);all_goals try first|(refine ⟨?_,?_⟩<;>omega)|exact rfl)
   unfold Ks at hs;rcases hb:Gq ls k ls.length with _|_
   . rw [hb,uq1,if_neg (by simp),List.append_nil] at hs;subst hs;have ebf:(false==true)=false:=rfl;simp -dsimp -implicitDefEqProofs only [pz,bC,bD,bx,↓reduceIte,aT];simp -dsimp -implicitDefEqProofs only [go_sem,aC,ebf];refine ax hnx (by simp [ay,ao,au,aH]) ?_;cases o with
     |some k2=>
      simp -dsimp -implicitDefEqProofs only [go_sem,db,Option.isSome_some]
     |none=>
      simp -dsimp -implicitDefEqProofs only [go_sem,fP,Option.isSome_none]
   rw [hb,uq3] at hs;have ebt:(true==true)=true:=rfl;rcases hin:DU ae k with _|_
   . rw [hin,if_pos (by simp)] at hs;rw [hin] at hhk;subst hs;simp -dsimp -implicitDefEqProofs only [pz,bC,bD,bx,↓reduceIte,aT];simp -dsimp -implicitDefEqProofs only [go_sem,aC,ebt];refine ab hhk ?_;simp -dsimp -implicitDefEqProofs only [go_sem];refine .inr ⟨by omega,hE K,?_⟩;rw [←e2];refine ax hnx (by simp [ay,ao,au,aH]) ?_;cases o with
     |some k2=>
      simp -dsimp -implicitDefEqProofs only [go_sem,db,Option.isSome_some,e3,e2]
     |none=>
      simp -dsimp -implicitDefEqProofs only [go_sem,fP,Option.isSome_none,e3,e2]
   rw [hin,if_neg (by simp),List.append_nil] at hs;rw [hin] at hhk;subst hs;simp -dsimp -implicitDefEqProofs only [pz,bC,bD,bx,↓reduceIte,aT];simp -dsimp -implicitDefEqProofs only [go_sem,aC,ebt];refine ab hhk ?_;simp -dsimp -implicitDefEqProofs only [go_sem];refine ax hnx (by simp [ay,ao,au,aH]) ?_;cases o with
   |some k2=>
    simp -dsimp -implicitDefEqProofs only [go_sem,db,Option.isSome_some]
   |none=>
    simp -dsimp -implicitDefEqProofs only [go_sem,fP,Option.isSome_none]
 rw [hge];have hn:(bE m)[(bE m).length]? =none:=by simp
 rw [hn];generalize cq m t ae=K at*;simp -dsimp -implicitDefEqProofs only [pz,bC,bD,bx,↓reduceIte,aT];simp -dsimp -implicitDefEqProofs only [go_sem,fP,Option.isSome_none]
theorem yV (m:aL) (t ae:lL) (h:t.length<=1048576) (h2:∀x∈t,x.length<=1048576) (h3:ae.length<=1048576) (h4:∀x∈ae,x.length<=1048576):Fn pG 98 [jR m t,aR ae] true (· = .aZ [eI (if bm m t ae=true then (cq m t ae).length else 0),eI (if bm m t ae=true then 0 else 1)]):=by
 refine Fn.av 17 [.tmp 4,.tmp 5] func98 (hv:= ?_);have hc:=pP m t ae h h2 h3 h4;rcases hd:bm m t ae with _|_
 . rw [hd,if_neg (by simp)] at hc;rw [if_neg (by simp),if_neg (by simp)];have e:((1:Int) != 0)=true:=rfl;simp -dsimp -implicitDefEqProofs only [go_sem];refine ab hc ?_;simp -dsimp -implicitDefEqProofs only [go_sem,e]
 rw [hd,if_pos rfl] at hc;rw [if_pos rfl,if_pos rfl];have ho:=o9 m t ae (ja hd);have e:((0:Int) != 0)=false:=rfl;simp -dsimp -implicitDefEqProofs only [go_sem];refine ab hc ?_;simp -dsimp -implicitDefEqProofs only [go_sem,e];refine ax ho (by simp [ay,ao,au,aH]) ?_;simp -dsimp -implicitDefEqProofs only [go_sem]
open Go.RowKit
theorem Tu (w:World) (ad:Option Addr) (n cap:Nat):CallsIn Fence.wide 1 pG 173 #[.slice ad n cap] w fun e w'=>e= .returned (.func (.func 225) #[] #[.pointer (some ⟨w.heap.size,0,none⟩)])/\w'=w.alloc (.cells #[.slice ad n cap] 164):=by
 refine callsIn_of_wp func173 rfl trivial ?_ rfl;simp only [Tryz.ntmps173,List.size_toArray,bW,bQ,bx,Nat.reduceSub,Array.replicate_succ,Array.replicate_zero,List.push_toArray,List.append_toArray,List.nil_append,List.cons_append]
 gi_wp2
 go_ret
 exact ⟨rfl,rfl⟩
theorem QD (l pb po n cap:Nat) (ad:Option Addr) (b2 o2:Nat) (f:Nat->Option Addr × Nat × Nat) (S:Nat->Prop) (J Jx:List (Fin n)->World->Prop) (W0:World)
 (hS:S pb/\(n=0\/S b2)) (hn:n<=1048576)
 (h1:W0.cell? ⟨pb,po,none⟩=some (.slice ad n cap)) (h2:n=0\/ad=some ⟨b2,o2,none⟩) (h3:∀i,i<n->W0.cell? ⟨b2,o2+i,none⟩=some (.slice (f i).1 (f i).2.1 (f i).2.2))
 (hY:∀pre (x:Fin n) W1,J pre W1->pre.length<n->YieldAt Fence.wide 0 pG l #[.int .i64 ((n-1-x.1:Nat):Int),.slice (f (n-1-x.1)).1 (f (n-1-x.1)).2.1 (f (n-1-x.1)).2.2] W1 fun e W'=>
   (e= .returned (.bool true)/\J (pre++[x]) W'/\∀b,S b->W'.heap[b]? =W1.heap[b]?)\/(e= .returned (.bool false)/\Jx (pre++[x]) W'))
 (h0:J [] W0):CallsIn Fence.wide 0 pG 225 #[.func (.yield l) #[] #[],.pointer (some ⟨pb,po,none⟩)] W0 fun e W'=>(∃v,e= .returned v)/\((∃xs,xs=List.finRange n/\J xs W')\/(∃pre,True/\Jx pre W')):=by
 refine callsIn_of_wp func225 rfl trivial ?_ rfl;simp only [Tryz.ntmps225,List.size_toArray,bW,bQ,bx,Nat.reduceSub,Array.replicate_succ,Array.replicate_zero,List.push_toArray,List.append_toArray,List.nil_append,List.cons_append]
 gi_wp2
 gi_loopw [3] (fun v wr=>∃k:Nat,k<=n/\v= .int .i64 ((n:Int)-1-k)/\J ((List.finRange n).take k) wr/\∀b,S b->wr.heap[b]? =W0.heap[b]?)
  (fun v _=>((RowKit.intOf v)+1).toNat)
 case atStart=>exact ⟨0,Nat.zero_le _,by simp,by simpa using h0,fun _ _=>rfl⟩
 case round=>
  obtain ⟨k,hk,rfl,hJ,jb⟩:=hrel;have hc:wr.cell? ⟨pb,po,none⟩=some (.slice ad n cap):=(World.cell?_of_block (jb pb hS.1)).trans h1;by_cases hlt:k<n
  . obtain ⟨i,hi⟩:∃i:Nat,i=n-1-k:=⟨_,rfl⟩;have hi2:(n:Int)-1-k=(i:Int):=by omega
    have hin:i<n:=by omega
    have hb2:S b2:=hS.2.resolve_left (by omega);obtain rfl:=h2.resolve_left (by omega);have hc2:wr.cell? ⟨b2,o2+i,none⟩=some (.slice (f i).1 (f i).2.1 (f i).2.2):=(World.cell?_of_block (jb b2 hb2)).trans (h3 i hin);have hY2:=hY ((List.finRange n).take k) ⟨k,hlt⟩ wr hJ (by simp;omega);rw [←hi] at hY2;rw [hi2];generalize (f i).1=f1 at hY2 hc2;generalize (f i).2.1=f2 at hY2 hc2;generalize (f i).2.2=f3 at hY2 hc2;have HD:Hid (i=n-1-k):=hi;clear h1 h3 hY hi hi2 hk;obtain ⟨fn,tmps,assign,body,hy,hR⟩:=hY2
    gi_wp2
    refine ⟨rfl,hR.mono ?_⟩;rintro e W3 (⟨rfl,hJ3,hk3⟩|⟨rfl,Zo⟩)
    . gi_wp2
      have hd:=HD.out;have ht:(List.finRange n).take (k+1)=(List.finRange n).take k++[⟨k,hlt⟩]:=by rw [List.take_add_one,uq8 (by simpa using hlt)];simp
      refine ⟨⟨k+1,hlt,?_,by rw [ht];exact hJ3,fun b hb=>(hk3 b hb).trans (jb b hb)⟩,?_⟩
      . rw [show ((i:Int)-1)=(n:Int)-1-((k+1:Nat):Int) by omega]
      simp only [RowKit.intOf];omega
    gi_wp2
    refine bodyPost_ret (results_none rfl _ _ _) rfl ?_;exact ⟨⟨_,rfl⟩,.inr ⟨_,trivial,Zo⟩⟩
  have hkn:k=n:=by omega
  have hi2:(n:Int)-1-k= -1:=by omega
  rw [hi2]
  gi_wp2
  go_end0
  rw [hkn,bg (by simp)] at hJ;exact ⟨⟨_,rfl⟩,.inl ⟨_,rfl,hJ⟩⟩
def gN (zs:lA):List (AV × AV):=(cf zs.length).reverse.map fun (i:Nat)=>(eI (i:Int),zs.getD i .undef)
theorem pS (zs:lA):(gN zs).length=zs.length:=by simp [gN]
theorem Ca (zs:lA) (i:Fin (gN zs).length):(gN zs)[i]=(eI ((zs.length-1-i.1:Nat):Int),zs.getD (zs.length-1-i.1) .undef):=by have hi:i.1<zs.length:=Nat.lt_of_lt_of_eq i.2 (pS zs);show (gN zs)[i.1]=_;simp [gN,List.getElem_reverse]
theorem Jd (zs:lA):Fn pG 173 [.arr ⟨1,false⟩ zs] false (fun r=>r= .cy 225 [.bu ⟨1,false⟩ [.arr ⟨1,false⟩ zs] 0 0]):=by
 refine ⟨⟨_,_,func173,rfl,rfl⟩,fun w S vs hS hk hsz hrd=> ?_⟩;have h0:=hrd 0 (by simp)
 obtain ⟨v,rfl⟩:∃v,vs= #[v]:=⟨vs[0]'(by rw [hsz];simp),by
  refine Array.ext (by simp [hsz]) fun i h1 h2=> ?_;have:i=0:=by simp at h2;omega
  subst this;rfl⟩
 have h0:Rd w S (.arr ⟨1,false⟩ zs) v:=h0;have key:∀ad n cap,v= .slice ad n cap->Calls pG 173 #[v] w fun e w'=>∃r v,e= .returned v/\r=AV.cy 225 [.bu ⟨1,false⟩ [.arr ⟨1,false⟩ zs] 0 0]/\Grown w w'/\iN w w' S false r v:=by
  rintro ad n cap rfl;refine (callsIn_wide.1 (Tu w ad n cap)).mono ?_;rintro e w' ⟨rfl,rfl⟩;have hb:(w.alloc (.cells #[.slice ad n cap] 164)).heap[w.heap.size]? =some (.cells #[.slice ad n cap] 164 (0,0)):=World.alloc_heap_new w _;have hg:Grown w (w.alloc (.cells #[.slice ad n cap] 164)):=⟨by simp,fun b hb=>Below.heap_alloc _ _ b hb,⟨rfl,rfl,rfl⟩⟩;refine ⟨_,_,rfl,rfl,hg,?_⟩;show Rd _ _ _ _;refine .cy _ _ _ rfl fun i hi=> ?_;have:i=0:=by simp at hi;omega
  subst this
  have hr:Rd (w.alloc (.cells #[.slice ad n cap] 164)) (fun b=>S b\/(w.heap.size<=b/\b<(w.alloc (.cells #[.slice ad n cap] 164)).heap.size)) (.arr ⟨1,false⟩ zs) (.slice ad n cap):=
   h0.mono (fun b hb=>hg.same b (hS b hb)) fun b hb=>.inl hb
  refine .bu ⟨1,false⟩ [.arr ⟨1,false⟩ zs] 0 0 w.heap.size 0 #[.slice ad n cap] _ _ (.inr ⟨gB _,by simp⟩) hb (by simp) (fun i hi=> ?_) fun i hi=> ?_
  . have:i=0:=by simp at hi;omega
    subst this;exact ⟨rfl,rfl⟩
  have:i=0:=by simp at hi;omega
  subst this;exact hr
 cases h0 with
 |nil sh a=>exact key _ _ _ rfl
 |arr sh xs b off cap cs e fr=>exact key _ _ _ rfl
theorem Dq (zs zs2:lA) (hl2:zs2.length=zs.length) (hz:∀i (h:i<zs.length) (h2:i<zs2.length),∃ws,zs2[i]= .arr ⟨1,false⟩ ws/\(zs[i]=zs2[i]\/(zs[i]= .val (.slice none 0 0)/\ws=[]))) (hn:zs.length<=1048576):
 Uu pG 225 [.bu ⟨1,false⟩ [.arr ⟨1,false⟩ zs] 0 0] (gN zs2):=by
 refine ⟨Go.Proofs.enters_of func225 (by kernel_rfl) rfl,fun w S cs hS hcs hrd=> ?_⟩;have h0:=hrd 0 (by simp)
 obtain ⟨p,rfl⟩:∃v,cs= #[v]:=⟨cs[0]'(by rw [hcs];simp),by
  refine Array.ext (by simp [hcs]) fun i h1 h2=> ?_;have:i=0:=by simp at h2;omega
  subst this;rfl⟩
 have h0:Rd w S (.bu ⟨1,false⟩ [.arr ⟨1,false⟩ zs] 0 0) p:=h0;obtain ⟨b,off,cs1,e1,fr1,hSb,hb,hl,hv,rfl⟩:∃b off cs1 e1 fr1,S b/\w.heap[b]? =some (.cells cs1 e1 fr1)/\off<cs1.size/\Rd w S (.arr ⟨1,false⟩ zs) (cs1.toList.getD off Go.undef)/\p= .pointer (some ⟨b,off,none⟩):=by
  cases h0 with
  |bu _ _ _ _ b off cs1 e1 fr1 hS' hb hl hf hv=>
   refine ⟨b,off,cs1,e1,fr1,hS',hb,?_,?_,by simp⟩
   . simp at hl;omega
   have:=hv 0 (by simp);simpa [elemV] using this
 have G5:w.cell? ⟨b,off,none⟩=some (cs1.toList.getD off Go.undef):=by simp [World.cell?,hb,uq7,hl]
 have key:∀(ad:Option Addr) (cap:Nat) (b2 o2:Nat),cs1.toList.getD off Go.undef= .slice ad zs.length cap->(zs.length=0\/S b2)->(zs.length=0\/ad=some ⟨b2,o2,none⟩)→
  (∀i (h:i<zs.length),∃u,w.cell? ⟨b2,o2+i,none⟩=some u/\Rd w S zs[i] u)->∃vs:Fin (gN zs2).length->Value × Value,(∀i,Rd w S (gN zs2)[i].1 (vs i).1/\Rd w S (gN zs2)[i].2 (vs i).2)∧
  SeqStopsK Fence.wide 0 pG 225 #[.pointer (some ⟨b,off,none⟩)] (fun i=> #[(vs i).1,(vs i).2]) (fun A B=>∀b,S b->B.heap[b]? =A.heap[b]?) (fun l=>l=List.finRange (gN zs2).length) (fun _=>True) (gN zs2).length w:=by
  intro ad cap b2 o2 hsv Yc had hcl;have:∀i,∃q:Option Addr × Nat × Nat,∀(h:i<zs.length) (h2:i<zs2.length),w.cell? ⟨b2,o2+i,none⟩=some (.slice q.1 q.2.1 q.2.2)/\Rd w S zs2[i] (.slice q.1 q.2.1 q.2.2):=by
   intro i;by_cases h:i<zs.length
   . obtain ⟨u,h1,h2⟩:=hcl i h;obtain ⟨ws,hw,hw2⟩:=hz i h (by omega);rcases hw2 with hw2|⟨hw2,hws⟩
     . rw [hw2,hw] at h2;cases h2 with
       |nil sh a=>exact ⟨(a,0,0),fun _ _=>⟨h1,by rw [hw];exact .nil _ _⟩⟩
       |arr sh xs b3 o3 c3 cs3 e3 f3 q1 q2 q3 q4 q5 q6=>exact ⟨(some ⟨b3,o3,none⟩,_,c3),fun _ _=>⟨h1,by rw [hw];exact .arr _ _ b3 o3 c3 cs3 e3 f3 q1 q2 q3 q4 q5 q6⟩⟩
     rw [hw2] at h2;cases h2 with
     |val _ _=>exact ⟨(none,0,0),fun _ _=>⟨h1,by rw [hw,hws];exact .nil _ _⟩⟩
   exact ⟨(none,0,0),fun h'=>absurd h' h⟩
  obtain ⟨f,hf⟩:=Classical.axiomOfChoice this;have hlen:=pS zs2;refine ⟨fun x=>(.int .i64 (((gN zs2).length-1-x.1:Nat):Int),.slice (f ((gN zs2).length-1-x.1)).1 (f ((gN zs2).length-1-x.1)).2.1 (f ((gN zs2).length-1-x.1)).2.2),fun i=> ?_,fun l J Jx W hW hJ hJx hY h0=> ?_⟩
  . have hi:(gN zs2).length-1-i.1<zs2.length:=by have:=i.2;omega
    have e:zs2.length-1-i.1=(gN zs2).length-1-i.1:=by omega
    rw [Ca,e];refine ⟨.val _ rfl,?_⟩;have:=(hf _ (by omega) hi).2;simp only [uq7,uq8 hi];exact this
  have Yd:∀q,S q->W.heap[q]? =w.heap[q]? :=fun q hq=>hW.block q (hS q hq);refine QD l b off (gN zs2).length cap ad b2 o2 f S J Jx W ⟨hSb,by rw [hlen,hl2];exact Yc⟩ (by rw [hlen,hl2];exact hn) ?_ (by rw [hlen,hl2];exact had) (fun i hi=> ?_) hY h0
  . rw [World.cell?_of_block (Yd b hSb),G5,hsv,hlen,hl2]
  have hi':i<zs.length:=by rw [←hl2,←hlen];exact hi
  rw [World.cell?_of_block (Yd b2 (Yc.resolve_left (by omega)))];exact (hf i hi' (by omega)).1
 generalize hq:cs1.toList.getD off Go.undef=q at hv key;cases hv with
 |nil sh a=>exact key a 0 0 0 rfl (.inl rfl) (.inl rfl) fun i h=>absurd h (fu _)
 |arr sh xs b2 o2 cap cs2 e2 fr2 h1 h2 h3 h4 h5 h6=>
  refine key _ cap b2 o2 rfl (.inr h1) (.inr rfl) fun i h=>⟨_,?_,h6 i h⟩;simp at h4;have:o2+i<cs2.size:=by omega
  simp [World.cell?,h2,elemV,uq7,this]
theorem Gr {σ:Type} {m:aL} {f:σ->lI->σ × Bool} {J:Nat->σ->Prop} (mono:∀a b s,a<=b->J a s->J b s) {n:Nat} {c:lI} (hc:∀(c':lI) (t:KS σ) (b:Nat),J b t.s->J (b+8^n) (bt m f n c' t).1.s) (t:KS σ) (b:Nat) (h:J b t.s):
 ∀D:Nat,J (b+D*8^n) (eJ (aX m f n c) t D).1.s
 |0=>by rw [Nat.zero_mul,Nat.add_zero];exact h
 |D+1=>by
  have ih:=Gr mono hc t b h D (c:=c);have hle:b+D*8^n<=b+(D+1)*8^n:=Nat.add_le_add_left (Nat.mul_le_mul_right _ (Nat.le_succ D)) b;by_cases hb:(eJ (aX m f n c) t D).2=true
  . rw [iX hb];generalize (eJ (aX m f n c) t D).1=u at*;unfold aX;split
    . split
      . have:=hc (c++[(D:Int)]) ⟨u.af+1,u.zs.take c.length++[(D:Int)],u.s⟩ _ ih;rw [Nat.succ_mul,←Nat.add_assoc];exact this
      exact mono _ _ _ hle ih
    exact mono _ _ _ hle ih
  rw [eJ,if_neg hb];exact mono _ _ _ hle ih
theorem yW {σ:Type} {m:aL} (hm:a6 m=true) {f:σ->lI->σ × Bool} {J:Nat->σ->Prop} (mono:∀a b s,a<=b->J a s->J b s) (step:∀b s k,J b s->J (b+1) (f s k).1):
 ∀(n:Nat) (c:lI) (t:KS σ) (b:Nat),J b t.s->J (b+8^n) (bt m f n c t).1.s
 |0,c,t,b,h=>by
  simp only [bt];split
  . exact mono _ _ _ (by omega) h
  exact step _ _ _ h
 |n+1,c,t,b,h=>by
  have hd:m.aq.toNat<=8:=by have:=aO hm;omega
  have:=Gr mono (fun c' t' b'=>yW hm mono step n c' t' b') t b h m.aq.toNat (c:=c);rw [dS];refine mono _ _ _ ?_ this;have h2:m.aq.toNat*8^n<=8*8^n:=Nat.mul_le_mul_right _ hd;rw [Nat.pow_succ,Nat.mul_comm (8^n) 8];omega
def bV (ls:List lL) (ae:lL) (st:lI) (k:lI):lI × Bool:=
 (if DU ae k=true then st else st.set (bI ls k ls.length).length (st.getD (bI ls k ls.length).length 0+1),true)
def qq (n b:Nat) (st:lI):Prop:=st.length=n/\∀x∈st,0<=x/\x<=(b:Int)
theorem nP (n:Nat):∀a b s,a<=b->qq n a s->qq n b s:=fun a b s h hs=>⟨hs.1,fun x hx=>by have:=hs.2 x hx;omega⟩
theorem yX (n:Nat) (ls:List lL) (ae:lL):∀b s k,qq n b s->qq n (b+1) (bV ls ae s k).1:=by
 intro b s k h;unfold bV;simp only;split
 . exact nP n b (b+1) s (by omega) h
 refine ⟨by rw [List.length_set];exact h.1,fun x hx=> ?_⟩;rcases List.mem_or_eq_of_mem_set hx with hx|rfl
 . have:=h.2 x hx;omega
 have:0<=s.getD (bI ls k ls.length).length 0/\s.getD (bI ls k ls.length).length 0<=(b:Int):=by
  rw [uq7];cases he:s[(bI ls k ls.length).length]? with
  |none=>first|(simp;done)|(simp;omega)
  |some y=>exact h.2 y (List.mem_of_getElem? he)
 omega
theorem tX (ls:List lL) (k:lI):∀n,n<=ls.length->Gq ls k n=decide (0<(bI ls k n).length)
 |0,_=>rfl
 |n+1,h=>by
  have eg:ls.getD n []=ls[n]:=by rw [uq7,uq8 (by omega)];rfl
  rw [B9 (by omega),tX ls k n (by omega),bI,eg];cases dX ls[n] k with
  |true=>rw [if_pos rfl,Bool.or_true,decide_eq_true (by simp)]
  |false=>rw [if_neg (by simp),Bool.or_false]
theorem Gs:∀(r:lI) (j:Nat),j<r.length->(r.set j (r.getD j 0+1)).sum=r.sum+1
 | [],j,h=>absurd h (fu _)
 |a::r,0,_=>by simp;omega
 |a::r,j+1,h=>by have:=Gs r j (by simpa using h);simp only [List.set_cons_succ,List.getD_cons_succ,List.sum_cons,this];omega
theorem Dr (st:lI) (i:Nat) (h:i<st.length):((st.set i (st.getD i 0+1)).drop 1).sum=(st.drop 1).sum+if 0<i then 1 else 0:=by
 cases st with
 |nil=>exact absurd h (fu _)
 |cons a r=>
  cases i with
  |zero=>simp
  |succ j=>
   rw [if_pos (by omega)];simp only [List.set_cons_succ,List.getD_cons_succ,uq5,uq6];exact Gs r j (by simpa using h)
theorem rb (ls:List lL) (ae:lL):∀(ks:lL) (st:lI),st.length=ls.length+1→
 (bH (bV ls ae) st ks).2=true/\(bH (bV ls ae) st ks).1.length=ls.length+1/\((bH (bV ls ae) st ks).1.drop 1).sum=(st.drop 1).sum+((ks.filter (Ks ls ae)).length:Int)
 | [],st,h=>⟨rfl,h,by simp [bH]⟩
 |k::ks,st,h=>by
  have ht:(bV ls ae st k).2=true:=rfl;have hl:(bV ls ae st k).1.length=ls.length+1:=by
   unfold bV;simp only;split
   . exact h
   rw [List.length_set];exact h
  obtain ⟨i1,i2,i3⟩:=rb ls ae ks (bV ls ae st k).1 hl;rw [bH,if_pos ht];refine ⟨i1,i2,?_⟩;rw [i3,List.filter_cons];have hd:=gA ls k ls.length;have hs:((bV ls ae st k).1.drop 1).sum=(st.drop 1).sum+if Ks ls ae k=true then 1 else 0:=by
   unfold bV Ks;simp only;rw [tX ls k ls.length (gB _)];cases hin:DU ae k with
   |true=>simp
   |false=>
    rw [if_neg (by simp),Dr st _ (by omega)];by_cases h0:0<(bI ls k ls.length).length
    . rw [if_pos h0,decide_eq_true h0,if_pos (by rfl)]
    rw [if_neg h0,decide_eq_false h0,if_neg (by simp)]
  rw [hs];split
  . simp only [bW];push_cast;omega
  omega
structure Gt (m:aL) (ae:lL) (ls:List lL) (n1:Nat):Prop where
 cl:ae.length<=1048576
 cx:∀x∈ae,x.length<=1048576
 ll:ls.length<=1000
 lk:∀l∈ls,(l.length:Int)=m.ah/\∀x∈l,x.length<=1048576
 n1:ls.length<n1
theorem XF (m:aL) (ae:lL) (ls:List lL) (n1:Nat) (hV:Gt m ae ls n1) (c:lI) (af:Nat) (ys:lA) (st:lI) (hc:(c.length:Int)=m.ah) (hc6:c.length<=6) (hy:ys.take c.length=c.map eI) (hs:∃b:Nat,qq n1 b st/\b+1<=1000000):
 fN pG 223 [(1700000010,.row af ⟨1,false⟩ true ys),(1600000004,.box 0 [aR ae]),(1600000005,.box 0 [.cy 265 [.ptr 1500000005 0 0 0]]),(1600000006,.box 0 [pX ls]),(1500000005,.box 0 [.ref 1500000012 0 0 n1]),(1500000012,.row 0 ⟨1,false⟩ true (bk eI st))] [.ref 1700000010 af 0 c.length,.ptr 1600000004 0 0 0,.ptr 1600000005 0 0 0,.ptr 1600000006 0 0 0]
  (fun r m'=>r=eB (bV ls ae st c).2/\m'=[(1700000010,.row af ⟨1,false⟩ true ys),(1600000004,.box 0 [aR ae]),(1600000005,.box 0 [.cy 265 [.ptr 1500000005 0 0 0]]),(1600000006,.box 0 [pX ls]),(1500000005,.box 0 [.ref 1500000012 0 0 n1]),(1500000012,.row 0 ⟨1,false⟩ true (bk eI ((bV ls ae st c).1)))]):=by
 refine fN.dM 17 [.tmp 5] func223 (hv:= ?_);have DN:=yU ae c hV.cl hV.cx;have hdo:=mb ls c hV.ll (fun l hl=>⟨by have:=(hV.lk l hl).1;omega,by have:=(hV.lk l hl).1;omega,(hV.lk l hl).2⟩);have hdl:=gA ls c ls.length;have hn1:=hV.n1;obtain ⟨b,⟨hst,hsb⟩,hb⟩:=hs;have hyl:c.length<=ys.length:=by have:=congrArg List.length hy;simp at this;omega
 simp -dsimp -implicitDefEqProofs only [go_sem];refine ak.ly 9 mixed rfl ?_;simp -dsimp -implicitDefEqProofs only [bj,fW,uq5,uq6];rcases hin:DU ae c with _|_
 . rw [hin] at DN;have hr:bV ls ae st c=(st.set (bI ls c ls.length).length (st.getD (bI ls c ls.length).length 0+1),true):=by rw [bV,hin,if_neg (by simp)]
   rw [hr];generalize bI ls c ls.length=D at*;have hDl:D.length<st.length:=by omega
   have gD:st[D.length]? =some (st.getD D.length 0):=by rw [uq7,uq8 hDl];rfl
   have hDb:=hsb (st.getD D.length 0) (List.mem_of_getElem? gD);generalize st.getD D.length 0=z at*;simp -dsimp -implicitDefEqProofs only [go_sem,hy,uq6];refine ⟨hyl,?_⟩;(refine an (DN) ?_;try simp -dsimp -implicitDefEqProofs only [go_sem, *]);(refine an (hdo) ?_;try simp -dsimp -implicitDefEqProofs only [go_sem, *]);refine ⟨by exact rfl,?_⟩;refine cn 430000 13 [.tmp 5] func265 rfl rfl rfl rfl rfl (by exact oT rfl) ?_;simp -dsimp -implicitDefEqProofs only [go_sem,gD];refine ⟨⟨by omega,by omega⟩,⟨by omega,by omega⟩,⟨by omega,by omega⟩,_,rfl,aN ?_ ?_⟩
   . simp -dsimp -implicitDefEqProofs only [go_sem,List.map_set]
   simp -dsimp -implicitDefEqProofs only [go_sem];simp [ao,au,ct]
 rw [hin] at DN;have hr:bV ls ae st c=(st,true):=by rw [bV,hin,if_pos rfl]
 rw [hr];simp -dsimp -implicitDefEqProofs only [go_sem,hy,uq6];refine ⟨hyl,?_⟩;(refine an (DN) ?_;try simp -dsimp -implicitDefEqProofs only [go_sem, *]);refine ⟨by exact rfl,_,rfl,aN ?_ ?_⟩
 . simp -dsimp -implicitDefEqProofs only [go_sem]
 simp -dsimp -implicitDefEqProofs only [go_sem];simp [ao,au,ct]
theorem XG (m:aL) (hm:a6 m=true) (ae:lL) (ls:List lL) (n1:Nat) (hV:Gt m ae ls n1):∀(n:Nat) (c:lI) (t:KS lI),(c.length:Int)+n=m.ah->(∀x∈c,0<=x/\x<=7)->DS c t->(∃b:Nat,qq n1 b t.s/\b+8^n<=1000000)→
 fN pG 262 [(1700000008,.box 0 [.ref 1700000010 t.af 0 c.length]),(1700000010,.row t.af ⟨1,false⟩ true (t.zs.map eI)),(1700000004,.box 0 [eI m.ah,eI m.aq,eI m.step,eI m.same,eI m.least]),(1700000007,.box 0 [.cy 223 [.ptr 1600000004 0 0 0,.ptr 1600000005 0 0 0,.ptr 1600000006 0 0 0]]),(1700000005,.box 0 [.val (.slice none 0 0)]),(1700000006,.box 0 [.val .nilFunc]),(1700000009,.box 0 [.cy 262 [.ptr 1700000008 0 0 0,.ptr 1700000004 0 0 0,.ptr 1700000007 0 0 0,.ptr 1700000005 0 0 0,.ptr 1700000006 0 0 0,.ptr 1700000009 0 0 0]]),(1600000004,.box 0 [aR ae]),(1600000005,.box 0 [.cy 265 [.ptr 1500000005 0 0 0]]),(1600000006,.box 0 [pX ls]),(1500000005,.box 0 [.ref 1500000012 0 0 n1]),(1500000012,.row 0 ⟨1,false⟩ true (bk eI t.s))] [eB false,.ptr 1700000008 0 0 0,.ptr 1700000004 0 0 0,.ptr 1700000007 0 0 0,.ptr 1700000005 0 0 0,.ptr 1700000006 0 0 0,.ptr 1700000009 0 0 0]
  (fun r m'=>r=eB (bt m (bV ls ae) n c t).2/\m'=[(1700000008,.box 0 [.ref 1700000010 (bt m (bV ls ae) n c t).1.af 0 c.length]),(1700000010,.row (bt m (bV ls ae) n c t).1.af ⟨1,false⟩ true ((bt m (bV ls ae) n c t).1.zs.map eI)),(1700000004,.box 0 [eI m.ah,eI m.aq,eI m.step,eI m.same,eI m.least]),(1700000007,.box 0 [.cy 223 [.ptr 1600000004 0 0 0,.ptr 1600000005 0 0 0,.ptr 1600000006 0 0 0]]),(1700000005,.box 0 [.val (.slice none 0 0)]),(1700000006,.box 0 [.val .nilFunc]),(1700000009,.box 0 [.cy 262 [.ptr 1700000008 0 0 0,.ptr 1700000004 0 0 0,.ptr 1700000007 0 0 0,.ptr 1700000005 0 0 0,.ptr 1700000006 0 0 0,.ptr 1700000009 0 0 0]]),(1600000004,.box 0 [aR ae]),(1600000005,.box 0 [.cy 265 [.ptr 1500000005 0 0 0]]),(1600000006,.box 0 [pX ls]),(1500000005,.box 0 [.ref 1500000012 0 0 n1]),(1500000012,.row 0 ⟨1,false⟩ true (bk eI ((bt m (bV ls ae) n c t).1.s)))]):=by
 intro n;have ⟨⟨zO,zP⟩,hd1,hd2⟩:=aO hm;induction n with
 |zero=>
  intro c t hl hc hz hs;have hk:((c.length:Int)==m.ah)=true:=beq_iff_eq.2 (by omega);have ht:cL c.length (bk eI t.zs)=bk eI c:=by rw [←List.map_take,hz.1]
  have hzl:c.length<=(bk eI t.zs).length:=by simpa using hz.2
  refine fN.dM 91 [.tmp 8] func262 (hv:= ?_);simp -dsimp -implicitDefEqProofs only [go_sem,hk];refine ak.ly 8 mixed rfl ?_;simp -dsimp -implicitDefEqProofs only [bj,fW,uq5,uq6];have sR:=iE c (by omega);rcases hq:decide ((bq c c.length:Int)<m.least) with _|_
  . have hq':=of_decide_eq_false hq;have eW:bt m (bV ls ae) 0 c t=(⟨t.af,t.zs,((bV ls ae) t.s c).1⟩,((bV ls ae) t.s c).2):=by rw [bt,if_neg hq']
    rw [eW];simp -dsimp -implicitDefEqProofs only [go_sem,ht,uq6];refine ⟨hz.2,?_⟩;(refine an (sR) ?_;try simp -dsimp -implicitDefEqProofs only [go_sem, *]);refine ⟨by exact rfl,hz.2,?_⟩;refine c7 (XF m ae ls n1 hV c t.af (t.zs.map eI) t.s (by omega) (by omega) ht (by simpa using hs)) ⟨⟨?_,?_⟩,?_,?_⟩ ?_
    . simp -dsimp -implicitDefEqProofs only [go_sem]
    . simp -dsimp -implicitDefEqProofs only [go_sem];simp [ao,au,ct]
    . simp -dsimp -implicitDefEqProofs only [go_sem]
    . simp -dsimp -implicitDefEqProofs only [go_sem];simp
    rintro r m' ⟨hr,hm'⟩;rw [hr,hm'];simp -dsimp -implicitDefEqProofs only [go_sem];refine ⟨_,rfl,aN ?_ ?_⟩
    . simp -dsimp -implicitDefEqProofs only [go_sem]
    simp -dsimp -implicitDefEqProofs only [go_sem];simp [ao,au,ct]
  have hq':=oT hq;have eW:bt m (bV ls ae) 0 c t=(t,true):=by rw [bt,if_pos hq']
  rw [eW];simp -dsimp -implicitDefEqProofs only [go_sem,ht,uq6];refine ⟨hz.2,?_⟩;(refine an (sR) ?_;try simp -dsimp -implicitDefEqProofs only [go_sem, *]);refine ⟨by exact rfl,_,rfl,aN ?_ ?_⟩
  . simp -dsimp -implicitDefEqProofs only [go_sem]
  simp -dsimp -implicitDefEqProofs only [go_sem];simp [ao,au,ct]
 |succ n ih=>
  intro c t hl hc hz hs;have hk:((c.length:Int)==m.ah)=false:=beq_eq_false_iff_ne.2 (by omega);refine fN.dM 91 [.tmp 8] func262 (hv:= ?_);simp -dsimp -implicitDefEqProofs only [go_sem,hk];refine ak.up [0,1,2,5,6,9,10] [47,61,69,70,72,84] [1700000008,1700000010,1500000012] m.aq.toNat (fun i=>(eJ (aX m (bV ls ae) n c) t i).2=true) (fun i=>[(11,eI i)]) (fun i=>[(1700000008,.box 0 [.ref 1700000010 (eJ (aX m (bV ls ae) n c) t i).1.af 0 c.length]),(1700000010,.row (eJ (aX m (bV ls ae) n c) t i).1.af ⟨1,false⟩ true ((eJ (aX m (bV ls ae) n c) t i).1.zs.map eI)),(1500000012,.row 0 ⟨1,false⟩ true (bk eI ((eJ (aX m (bV ls ae) n c) t i).1.s)))]) rfl ?_ rfl (fun i hi hI=> ?_) (fun hI=> ?_)
  . simp -dsimp -implicitDefEqProofs only [go_sem];simp [eJ]
  . have hu:DS c (eJ (aX m (bV ls ae) n c) t i).1:=pN hz i;have ku:∃b:Nat,qq n1 b (eJ (aX m (bV ls ae) n c) t i).1.s/\b+8^n<=1000000:=by
     obtain ⟨b0,hJ0,hb0⟩:=hs;refine ⟨b0+i*8^n,Gr (nP n1) (fun c' t' b'=>yW hm (nP n1) (yX n1 ls ae) n c' t' b') t b0 hJ0 i,?_⟩;have h8:(i+1)*8^n<=8*8^n:=Nat.mul_le_mul_right _ (by omega);have h9:(i+1)*8^n=i*8^n+8^n:=Nat.succ_mul i (8^n);have h10:8^(n+1)=8*8^n:=by rw [Nat.pow_succ,Nat.mul_comm]
     omega
    have hlt:decide ((i:Int)<m.aq)=true:=dT (by omega);have hS:=iX hI;have cF:(aX m (bV ls ae) n c i (eJ (aX m (bV ls ae) n c) t i).1).2=false->bt m (bV ls ae) (n+1) c t=aX m (bV ls ae) n c i (eJ (aX m (bV ls ae) n c) t i).1:=fun h=>by rw [←hS] at h ⊢;rw [dS,o1 h m.aq.toNat (by omega)]
    rw [hS];clear hS hI;generalize (eJ (aX m (bV ls ae) n c) t i).1=u at*;obtain ⟨hu1,hu2⟩:=hu;have htk:cL c.length (bk eI u.zs)=bk eI c:=by rw [←List.map_take,hu1]
    have hcl:c.length<=6:=by omega
    have hih:=ih (c++[(i:Int)]) ⟨u.af+1,c++[(i:Int)],u.s⟩ (by simp;omega) (fun x hx=>by
     rcases List.mem_append.1 hx with h|h
     . exact hc x h
     simp at h;omega) ⟨aY,gB _⟩ ku
    simp only [dD,bW,bQ,Nat.zero_add] at hih;have cO:=kC (c++[(i:Int)]) (by simp) (by simp;omega);simp only [dD,bW,bQ,Nat.zero_add,Nat.add_sub_cancel] at cO;have ot:bk eI c++[eI (i:Int)]=bk eI (c++[(i:Int)]):=by simp
    have l4:bP m c i=(c.isEmpty|| !decide (fg ((i:Int)-c.getD (c.length-1) 0)>m.step)):=by
     unfold bP;congr 1;by_cases h:fg ((i:Int)-c.getD (c.length-1) 0)<=m.step
     . rw [decide_eq_true h,decide_eq_false (by omega)];rfl
     rw [decide_eq_false h,decide_eq_true (by omega)];rfl
    have dK:gb m c i= !decide ((ba (c++[(i:Int)]) c.length:Int)>m.same):=by
     unfold gb;by_cases h:(ba (c++[(i:Int)]) c.length:Int)<=m.same
     . rw [decide_eq_true h,decide_eq_false (by omega)];rfl
     rw [decide_eq_false h,decide_eq_true (by omega)];rfl
    simp -dsimp -implicitDefEqProofs only [pz,bC,bD,bx,↓reduceIte,aT];simp -dsimp -implicitDefEqProofs only [go_sem,hlt];refine ak.draw mixed rfl ?_;have hfn:rz pG 216 .neq=some false:=rfl;rcases hk0:decide ((c.length:Int)>0) with _|_
    . have hce:c=[]:=by
       have:=of_decide_eq_false hk0;exact List.eq_nil_of_length_eq_zero (by omega)
      have hsT:bP m c i=true:=by rw [hce];rfl
      clear hce;simp -dsimp -implicitDefEqProofs only [go_sem,hfn,hk0];refine ⟨by exact rfl,hu2,by omega,?_⟩;refine ak.ly 13 mixed rfl ?_;simp -dsimp -implicitDefEqProofs only [bj,fW,uq5,uq6];have htl:cL (c.length+1) (bk eI (c++[(i:Int)]))=bk eI (c++[(i:Int)]):=bg (by simp);rcases hq2:decide ((ba (c++[(i:Int)]) c.length:Int)>m.same) with _|_
      . have hcB:aX m (bV ls ae) n c i u=bt m (bV ls ae) n (c++[(i:Int)]) ⟨u.af+1,c++[(i:Int)],u.s⟩:=by rw [aX,if_pos hsT,if_pos (by rw [dK,hq2];rfl),hu1]
        rw [hcB] at cF ⊢;clear hcB;generalize bt m (bV ls ae) n (c++[(i:Int)]) ⟨u.af+1,c++[(i:Int)],u.s⟩=w at*;obtain ⟨w,b⟩:=w;simp -dsimp -implicitDefEqProofs only [go_sem,htk,ot,htl];(refine an (cO) ?_;try simp -dsimp -implicitDefEqProofs only [go_sem, *]);refine ⟨by exact rfl,?_⟩;refine c7 hih ⟨⟨?_,?_⟩,?_,?_⟩ ?_
        . simp -dsimp -implicitDefEqProofs only [go_sem]
        . simp -dsimp -implicitDefEqProofs only [go_sem];simp [ao,au,ct]
        . simp -dsimp -implicitDefEqProofs only [go_sem]
        . simp -dsimp -implicitDefEqProofs only [go_sem];simp
        rintro r m' ⟨hr,hm'⟩;rw [hr,hm'];clear hr hm';cases b with
        |false=>
         rw [cF rfl];simp -dsimp -implicitDefEqProofs only [go_sem];refine ⟨by omega,_,rfl,aN ?_ ?_⟩
         . simp -dsimp -implicitDefEqProofs only [go_sem]
         simp -dsimp -implicitDefEqProofs only [go_sem];simp [ao,au,ct]
        |true=>
         simp -dsimp -implicitDefEqProofs only [go_sem];exact ⟨by omega,⟨by omega,by omega⟩,by simp⟩
      have hcB:aX m (bV ls ae) n c i u=(⟨u.af+1,c++[(i:Int)],u.s⟩,true):=by rw [aX,if_pos hsT,if_neg (by rw [dK,hq2];exact fun h=>by cases h),hu1]
      rw [hcB];clear hcB cF;simp -dsimp -implicitDefEqProofs only [go_sem,htk,ot,htl];(refine an (cO) ?_;try simp -dsimp -implicitDefEqProofs only [go_sem, *]);exact ⟨by exact rfl,by omega,⟨by omega,by omega⟩,by simp⟩
    have hkp:=oT hk0;have hla:c.getD (c.length-1) 0=c[c.length-1]:=by simp [uq7,show c.length-1<c.length by omega]
    have kh:(bk eI u.zs)[c.length-1]? =some (eI (c.getD (c.length-1) 0)):=by
     have h1:(cL c.length (bk eI u.zs))[c.length-1]? =(bk eI u.zs)[c.length-1]? :=by rw [List.getElem?_take];simp;omega
     rw [←h1,htk,hla];simp [show c.length-1<c.length by omega]
    have hlb:=hc _ (uq9 (show c.length-1<c.length by omega));rw [←hla] at hlb;generalize c.getD (c.length-1) 0=z at*;clear hla;have e1:((c.length:Int)-1).toNat=c.length-1:=by omega
    have p5:=ju ((i:Int)-z) (by omega);rcases hq:decide (fg ((i:Int)-z)>m.step) with _|_
    . have hsT:bP m c i=true:=by rw [l4,hq];simp
      simp -dsimp -implicitDefEqProofs only [go_sem,hfn,hk0,e1,kh];refine ⟨⟨by omega,by omega⟩,⟨by omega,by omega⟩,⟨by omega,by omega⟩,?_⟩;(refine an (p5) ?_;try simp -dsimp -implicitDefEqProofs only [go_sem, *]);refine ⟨by exact rfl,by omega,?_⟩;refine ak.ly 13 mixed rfl ?_;simp -dsimp -implicitDefEqProofs only [bj,fW,uq5,uq6];have htl:cL (c.length+1) (bk eI (c++[(i:Int)]))=bk eI (c++[(i:Int)]):=bg (by simp);rcases hq2:decide ((ba (c++[(i:Int)]) c.length:Int)>m.same) with _|_
      . have hcB:aX m (bV ls ae) n c i u=bt m (bV ls ae) n (c++[(i:Int)]) ⟨u.af+1,c++[(i:Int)],u.s⟩:=by rw [aX,if_pos hsT,if_pos (by rw [dK,hq2];rfl),hu1]
        rw [hcB] at cF ⊢;clear hcB;generalize bt m (bV ls ae) n (c++[(i:Int)]) ⟨u.af+1,c++[(i:Int)],u.s⟩=w at*;obtain ⟨w,b⟩:=w;simp -dsimp -implicitDefEqProofs only [go_sem,htl];(refine an (cO) ?_;try simp -dsimp -implicitDefEqProofs only [go_sem, *]);refine ⟨by exact rfl,?_⟩;refine c7 hih ⟨⟨?_,?_⟩,?_,?_⟩ ?_
        . simp -dsimp -implicitDefEqProofs only [go_sem]
        . simp -dsimp -implicitDefEqProofs only [go_sem];simp [ao,au,ct]
        . simp -dsimp -implicitDefEqProofs only [go_sem]
        . simp -dsimp -implicitDefEqProofs only [go_sem];simp
        rintro r m' ⟨hr,hm'⟩;rw [hr,hm'];clear hr hm';cases b with
        |false=>
         rw [cF rfl];simp -dsimp -implicitDefEqProofs only [go_sem];refine ⟨by omega,_,rfl,aN ?_ ?_⟩
         . simp -dsimp -implicitDefEqProofs only [go_sem]
         simp -dsimp -implicitDefEqProofs only [go_sem];simp [ao,au,ct]
        |true=>
         simp -dsimp -implicitDefEqProofs only [go_sem];exact ⟨by omega,⟨by omega,by omega⟩,by simp⟩
      have hcB:aX m (bV ls ae) n c i u=(⟨u.af+1,c++[(i:Int)],u.s⟩,true):=by rw [aX,if_pos hsT,if_neg (by rw [dK,hq2];exact fun h=>by cases h),hu1]
      rw [hcB];clear hcB cF;simp -dsimp -implicitDefEqProofs only [go_sem,htl];(refine an (cO) ?_;try simp -dsimp -implicitDefEqProofs only [go_sem, *]);exact ⟨by exact rfl,by omega,⟨by omega,by omega⟩,by simp⟩
    have hsF:bP m c i=false:=by
     rw [l4,hq];cases c with
     |nil=>simp at hkp
     |cons=>rfl
    have hcB:aX m (bV ls ae) n c i u=(u,true):=by rw [aX,if_neg (by rw [hsF];exact fun h=>by cases h)]
    rw [hcB];clear hcB cF;simp -dsimp -implicitDefEqProofs only [go_sem,hfn,hk0,e1,kh];refine ⟨⟨by omega,by omega⟩,⟨by omega,by omega⟩,⟨by omega,by omega⟩,?_⟩;(refine an (p5) ?_;try simp -dsimp -implicitDefEqProofs only [go_sem, *]);exact ⟨by exact rfl,⟨by omega,by omega⟩,by simp⟩
  simp -dsimp -implicitDefEqProofs only [pz,bC,bD,bx,↓reduceIte,aT];have hlt:decide (((m.aq.toNat:Nat):Int)<m.aq)=false:=dF (by omega);simp -dsimp -implicitDefEqProofs only [go_sem,hlt];rw [dS];refine ⟨_,⟨by rw [hI],rfl⟩,aN ?_ ?_⟩
  . simp -dsimp -implicitDefEqProofs only [go_sem]
  simp -dsimp -implicitDefEqProofs only [go_sem];simp [ao,au,ct]
def Hc:Option lI->AV
 |none=>.val (.slice none 0 0)
 |some k=>aR [k]
def dB (ls:List lL) (ae:lL) (st:List (Option lI)) (k:lI):List (Option lI) × Bool:=
 (if DU ae k=true then st else if 0<(bI ls k ls.length).length/\st.getD (bI ls k ls.length).length none=none then st.set (bI ls k ls.length).length (some k) else st,true)
def Ds (n:Nat) (_:Nat) (st:List (Option lI)):Prop:=st.length=n
theorem Cb (n:Nat):∀a b s,a<=b->Ds n a s->Ds n b s:=fun _ _ _ _ h=>h
theorem Cc (n:Nat) (ls:List lL) (ae:lL):∀b s k,Ds n b s->Ds n (b+1) (dB ls ae s k).1:=by
 intro b s k h;unfold dB Ds at*;simp only;split
 . exact h
 split
 . rw [List.length_set];exact h
 exact h
theorem XH (m:aL) (ae:lL) (ls:List lL) (n1:Nat) (hV:Gt m ae ls n1) (c:lI) (af:Nat) (ys:lA) (st:List (Option lI)) (hc:(c.length:Int)=m.ah) (hc6:c.length<=6) (hy:ys.take c.length=c.map eI) (hs:∃b:Nat,Ds n1 b st/\b+1<=1000000):
 fN pG 223 [(1700000010,.row af ⟨1,false⟩ true ys),(1600000004,.box 0 [aR ae]),(1600000005,.box 0 [.cy 172 [.ptr 1500000009 0 0 0,.ptr 1500000005 0 0 0]]),(1600000006,.box 0 [pX ls]),(1500000009,.box 0 [.ref 1500000028 0 0 n1]),(1500000005,.box 0 [eI 1]),(1500000028,.row 0 ⟨1,false⟩ false (bk Hc st))] [.ref 1700000010 af 0 c.length,.ptr 1600000004 0 0 0,.ptr 1600000005 0 0 0,.ptr 1600000006 0 0 0]
  (fun r m'=>r=eB (dB ls ae st c).2/\m'=[(1700000010,.row af ⟨1,false⟩ true ys),(1600000004,.box 0 [aR ae]),(1600000005,.box 0 [.cy 172 [.ptr 1500000009 0 0 0,.ptr 1500000005 0 0 0]]),(1600000006,.box 0 [pX ls]),(1500000009,.box 0 [.ref 1500000028 0 0 n1]),(1500000005,.box 0 [eI 1]),(1500000028,.row 0 ⟨1,false⟩ false (bk Hc ((dB ls ae st c).1)))]):=by
 refine fN.dM 17 [.tmp 5] func223 (hv:= ?_);have DN:=yU ae c hV.cl hV.cx;have hdo:=mb ls c hV.ll (fun l hl=>⟨by have:=(hV.lk l hl).1;omega,by have:=(hV.lk l hl).1;omega,(hV.lk l hl).2⟩);have hdl:=gA ls c ls.length;have hn1:=hV.n1;obtain ⟨b,hst,hb⟩:=hs;have hst:st.length=n1:=hst;have hyl:c.length<=ys.length:=by have:=congrArg List.length hy;simp at this;omega
 simp -dsimp -implicitDefEqProofs only [go_sem];refine ak.ly 9 mixed rfl ?_;simp -dsimp -implicitDefEqProofs only [bj,fW,uq5,uq6];rcases hin:DU ae c with _|_
 . rw [hin] at DN;have hr:dB ls ae st c=(if 0<(bI ls c ls.length).length/\st.getD (bI ls c ls.length).length none=none then st.set (bI ls c ls.length).length (some c) else st,true):=by rw [dB,hin,if_neg (by simp)]
   rw [hr];generalize bI ls c ls.length=D at*;have hDl:D.length<st.length:=by omega
   have gD:st[D.length]? =some (st.getD D.length none):=by rw [uq7,uq8 hDl];rfl
   generalize st.getD D.length none=z at*;simp -dsimp -implicitDefEqProofs only [go_sem,hy,uq6];refine ⟨hyl,?_⟩;(refine an (DN) ?_;try simp -dsimp -implicitDefEqProofs only [go_sem, *]);(refine an (hdo) ?_;try simp -dsimp -implicitDefEqProofs only [go_sem, *]);refine ⟨by exact rfl,?_⟩;refine cn 430000 32 [.tmp 6] func172 rfl rfl rfl rfl rfl (by exact oT rfl) ?_;rcases D with _|⟨d0,D⟩
   . have e0:decide ((0:Int)>0)=false:=rfl;simp -dsimp -implicitDefEqProofs only [go_sem];refine ak.draw mixed rfl ?_;simp -dsimp -implicitDefEqProofs only [go_sem,e0];refine ⟨by exact rfl,_,rfl,aN ?_ ?_⟩
     . simp -dsimp -implicitDefEqProofs only [go_sem];simp
     simp -dsimp -implicitDefEqProofs only [go_sem];simp [ao,au,ct]
   rw [bW] at gD hDl hdl;have e1:decide (((D.length+1:Nat):Int)>0)=true:=dT (by omega);rcases z with _|k0
   . have e2:decide ((0:Int)<1)=true:=rfl;simp -dsimp -implicitDefEqProofs only [go_sem];refine ak.draw mixed rfl ?_;simp -dsimp -implicitDefEqProofs only [go_sem,e1,gD,Hc,e2];refine ⟨⟨by omega,by omega⟩,by exact rfl,?_⟩;refine ak.ly 11 mixed rfl ?_;simp -dsimp -implicitDefEqProofs only [bj,fW,uq5,uq6];have hcl:=yp c (by omega);simp -dsimp -implicitDefEqProofs only [go_sem,gD,Hc,hy,uq6];refine ⟨⟨by omega,by omega⟩,hyl,?_⟩;(refine an (hcl) ?_;try simp -dsimp -implicitDefEqProofs only [go_sem, *]);have ez:(0<D.length+1/\(none:Option lI)=none):=⟨by omega,rfl⟩;refine .inr ⟨⟨by omega,by omega⟩,by exact rfl,.inr ⟨by omega,_,rfl,aN ?_ ?_⟩⟩
     . simp -dsimp -implicitDefEqProofs only [go_sem,ez,List.map_set,Hc];rfl
     simp -dsimp -implicitDefEqProofs only [go_sem];simp [ao,au,ct]
   have e2:decide (((1:Nat):Int)<1)=false:=rfl;simp -dsimp -implicitDefEqProofs only [go_sem];refine ak.draw mixed rfl ?_;simp -dsimp -implicitDefEqProofs only [go_sem,e1,gD,Hc,e2];refine ⟨⟨by omega,by omega⟩,by exact rfl,?_⟩;have ez:¬(0<D.length+1/\(some k0:Option lI)=none):=fun h=>by cases h.2
   refine ⟨_,rfl,aN ?_ ?_⟩
   . simp -dsimp -implicitDefEqProofs only [go_sem,ez]
   simp -dsimp -implicitDefEqProofs only [go_sem];simp [ao,au,ct]
 rw [hin] at DN;have hr:dB ls ae st c=(st,true):=by rw [dB,hin,if_pos rfl]
 rw [hr];simp -dsimp -implicitDefEqProofs only [go_sem,hy,uq6];refine ⟨hyl,?_⟩;(refine an (DN) ?_;try simp -dsimp -implicitDefEqProofs only [go_sem, *]);refine ⟨by exact rfl,_,rfl,aN ?_ ?_⟩
 . simp -dsimp -implicitDefEqProofs only [go_sem]
 simp -dsimp -implicitDefEqProofs only [go_sem];simp [ao,au,ct]
theorem XI (m:aL) (hm:a6 m=true) (ae:lL) (ls:List lL) (n1:Nat) (hV:Gt m ae ls n1):∀(n:Nat) (c:lI) (t:KS (List (Option lI))),(c.length:Int)+n=m.ah->(∀x∈c,0<=x/\x<=7)->DS c t->(∃b:Nat,Ds n1 b t.s/\b+8^n<=1000000)→
 fN pG 262 [(1700000008,.box 0 [.ref 1700000010 t.af 0 c.length]),(1700000010,.row t.af ⟨1,false⟩ true (t.zs.map eI)),(1700000004,.box 0 [eI m.ah,eI m.aq,eI m.step,eI m.same,eI m.least]),(1700000007,.box 0 [.cy 223 [.ptr 1600000004 0 0 0,.ptr 1600000005 0 0 0,.ptr 1600000006 0 0 0]]),(1700000005,.box 0 [.val (.slice none 0 0)]),(1700000006,.box 0 [.val .nilFunc]),(1700000009,.box 0 [.cy 262 [.ptr 1700000008 0 0 0,.ptr 1700000004 0 0 0,.ptr 1700000007 0 0 0,.ptr 1700000005 0 0 0,.ptr 1700000006 0 0 0,.ptr 1700000009 0 0 0]]),(1600000004,.box 0 [aR ae]),(1600000005,.box 0 [.cy 172 [.ptr 1500000009 0 0 0,.ptr 1500000005 0 0 0]]),(1600000006,.box 0 [pX ls]),(1500000009,.box 0 [.ref 1500000028 0 0 n1]),(1500000005,.box 0 [eI 1]),(1500000028,.row 0 ⟨1,false⟩ false (bk Hc t.s))] [eB false,.ptr 1700000008 0 0 0,.ptr 1700000004 0 0 0,.ptr 1700000007 0 0 0,.ptr 1700000005 0 0 0,.ptr 1700000006 0 0 0,.ptr 1700000009 0 0 0]
  (fun r m'=>r=eB (bt m (dB ls ae) n c t).2/\m'=[(1700000008,.box 0 [.ref 1700000010 (bt m (dB ls ae) n c t).1.af 0 c.length]),(1700000010,.row (bt m (dB ls ae) n c t).1.af ⟨1,false⟩ true ((bt m (dB ls ae) n c t).1.zs.map eI)),(1700000004,.box 0 [eI m.ah,eI m.aq,eI m.step,eI m.same,eI m.least]),(1700000007,.box 0 [.cy 223 [.ptr 1600000004 0 0 0,.ptr 1600000005 0 0 0,.ptr 1600000006 0 0 0]]),(1700000005,.box 0 [.val (.slice none 0 0)]),(1700000006,.box 0 [.val .nilFunc]),(1700000009,.box 0 [.cy 262 [.ptr 1700000008 0 0 0,.ptr 1700000004 0 0 0,.ptr 1700000007 0 0 0,.ptr 1700000005 0 0 0,.ptr 1700000006 0 0 0,.ptr 1700000009 0 0 0]]),(1600000004,.box 0 [aR ae]),(1600000005,.box 0 [.cy 172 [.ptr 1500000009 0 0 0,.ptr 1500000005 0 0 0]]),(1600000006,.box 0 [pX ls]),(1500000009,.box 0 [.ref 1500000028 0 0 n1]),(1500000005,.box 0 [eI 1]),(1500000028,.row 0 ⟨1,false⟩ false (bk Hc ((bt m (dB ls ae) n c t).1.s)))]):=by
 intro n;have ⟨⟨zO,zP⟩,hd1,hd2⟩:=aO hm;induction n with
 |zero=>
  intro c t hl hc hz hs;have hk:((c.length:Int)==m.ah)=true:=beq_iff_eq.2 (by omega);have ht:cL c.length (bk eI t.zs)=bk eI c:=by rw [←List.map_take,hz.1]
  have hzl:c.length<=(bk eI t.zs).length:=by simpa using hz.2
  refine fN.dM 91 [.tmp 8] func262 (hv:= ?_);simp -dsimp -implicitDefEqProofs only [go_sem,hk];refine ak.ly 8 mixed rfl ?_;simp -dsimp -implicitDefEqProofs only [bj,fW,uq5,uq6];have sR:=iE c (by omega);rcases hq:decide ((bq c c.length:Int)<m.least) with _|_
  . have hq':=of_decide_eq_false hq;have eW:bt m (dB ls ae) 0 c t=(⟨t.af,t.zs,((dB ls ae) t.s c).1⟩,((dB ls ae) t.s c).2):=by rw [bt,if_neg hq']
    rw [eW];simp -dsimp -implicitDefEqProofs only [go_sem,ht,uq6];refine ⟨hz.2,?_⟩;(refine an (sR) ?_;try simp -dsimp -implicitDefEqProofs only [go_sem, *]);refine ⟨by exact rfl,hz.2,?_⟩;refine c7 (XH m ae ls n1 hV c t.af (t.zs.map eI) t.s (by omega) (by omega) ht (by simpa using hs)) ⟨⟨?_,?_⟩,?_,?_⟩ ?_
    . simp -dsimp -implicitDefEqProofs only [go_sem]
    . simp -dsimp -implicitDefEqProofs only [go_sem];simp [ao,au,ct]
    . simp -dsimp -implicitDefEqProofs only [go_sem]
    . simp -dsimp -implicitDefEqProofs only [go_sem];simp
    rintro r m' ⟨hr,hm'⟩;rw [hr,hm'];simp -dsimp -implicitDefEqProofs only [go_sem];refine ⟨_,rfl,aN ?_ ?_⟩
    . simp -dsimp -implicitDefEqProofs only [go_sem]
    simp -dsimp -implicitDefEqProofs only [go_sem];simp [ao,au,ct]
  have hq':=oT hq;have eW:bt m (dB ls ae) 0 c t=(t,true):=by rw [bt,if_pos hq']
  rw [eW];simp -dsimp -implicitDefEqProofs only [go_sem,ht,uq6];refine ⟨hz.2,?_⟩;(refine an (sR) ?_;try simp -dsimp -implicitDefEqProofs only [go_sem, *]);refine ⟨by exact rfl,_,rfl,aN ?_ ?_⟩
  . simp -dsimp -implicitDefEqProofs only [go_sem]
  simp -dsimp -implicitDefEqProofs only [go_sem];simp [ao,au,ct]
 |succ n ih=>
  intro c t hl hc hz hs;have hk:((c.length:Int)==m.ah)=false:=beq_eq_false_iff_ne.2 (by omega);refine fN.dM 91 [.tmp 8] func262 (hv:= ?_);simp -dsimp -implicitDefEqProofs only [go_sem,hk];refine ak.up [0,1,2,5,6,9,10] [47,61,69,70,72,84] [1700000008,1700000010,1500000028] m.aq.toNat (fun i=>(eJ (aX m (dB ls ae) n c) t i).2=true) (fun i=>[(11,eI i)]) (fun i=>[(1700000008,.box 0 [.ref 1700000010 (eJ (aX m (dB ls ae) n c) t i).1.af 0 c.length]),(1700000010,.row (eJ (aX m (dB ls ae) n c) t i).1.af ⟨1,false⟩ true ((eJ (aX m (dB ls ae) n c) t i).1.zs.map eI)),(1500000028,.row 0 ⟨1,false⟩ false (bk Hc ((eJ (aX m (dB ls ae) n c) t i).1.s)))]) rfl ?_ rfl (fun i hi hI=> ?_) (fun hI=> ?_)
  . simp -dsimp -implicitDefEqProofs only [go_sem];simp [eJ]
  . have hu:DS c (eJ (aX m (dB ls ae) n c) t i).1:=pN hz i;have ku:∃b:Nat,Ds n1 b (eJ (aX m (dB ls ae) n c) t i).1.s/\b+8^n<=1000000:=by
     obtain ⟨b0,hJ0,hb0⟩:=hs;refine ⟨b0+i*8^n,Gr (Cb n1) (fun c' t' b'=>yW hm (Cb n1) (Cc n1 ls ae) n c' t' b') t b0 hJ0 i,?_⟩;have h8:(i+1)*8^n<=8*8^n:=Nat.mul_le_mul_right _ (by omega);have h9:(i+1)*8^n=i*8^n+8^n:=Nat.succ_mul i (8^n);have h10:8^(n+1)=8*8^n:=by rw [Nat.pow_succ,Nat.mul_comm]
     omega
    have hlt:decide ((i:Int)<m.aq)=true:=dT (by omega);have hS:=iX hI;have cF:(aX m (dB ls ae) n c i (eJ (aX m (dB ls ae) n c) t i).1).2=false->bt m (dB ls ae) (n+1) c t=aX m (dB ls ae) n c i (eJ (aX m (dB ls ae) n c) t i).1:=fun h=>by rw [←hS] at h ⊢;rw [dS,o1 h m.aq.toNat (by omega)]
    rw [hS];clear hS hI;generalize (eJ (aX m (dB ls ae) n c) t i).1=u at*;obtain ⟨hu1,hu2⟩:=hu;have htk:cL c.length (bk eI u.zs)=bk eI c:=by rw [←List.map_take,hu1]
    have hcl:c.length<=6:=by omega
    have hih:=ih (c++[(i:Int)]) ⟨u.af+1,c++[(i:Int)],u.s⟩ (by simp;omega) (fun x hx=>by
     rcases List.mem_append.1 hx with h|h
     . exact hc x h
     simp at h;omega) ⟨aY,gB _⟩ ku
    simp only [dD,bW,bQ,Nat.zero_add] at hih;have cO:=kC (c++[(i:Int)]) (by simp) (by simp;omega);simp only [dD,bW,bQ,Nat.zero_add,Nat.add_sub_cancel] at cO;have ot:bk eI c++[eI (i:Int)]=bk eI (c++[(i:Int)]):=by simp
    have l4:bP m c i=(c.isEmpty|| !decide (fg ((i:Int)-c.getD (c.length-1) 0)>m.step)):=by
     unfold bP;congr 1;by_cases h:fg ((i:Int)-c.getD (c.length-1) 0)<=m.step
     . rw [decide_eq_true h,decide_eq_false (by omega)];rfl
     rw [decide_eq_false h,decide_eq_true (by omega)];rfl
    have dK:gb m c i= !decide ((ba (c++[(i:Int)]) c.length:Int)>m.same):=by
     unfold gb;by_cases h:(ba (c++[(i:Int)]) c.length:Int)<=m.same
     . rw [decide_eq_true h,decide_eq_false (by omega)];rfl
     rw [decide_eq_false h,decide_eq_true (by omega)];rfl
    simp -dsimp -implicitDefEqProofs only [pz,bC,bD,bx,↓reduceIte,aT];simp -dsimp -implicitDefEqProofs only [go_sem,hlt];refine ak.draw mixed rfl ?_;have hfn:rz pG 216 .neq=some false:=rfl;rcases hk0:decide ((c.length:Int)>0) with _|_
    . have hce:c=[]:=by
       have:=of_decide_eq_false hk0;exact List.eq_nil_of_length_eq_zero (by omega)
      have hsT:bP m c i=true:=by rw [hce];rfl
      clear hce;simp -dsimp -implicitDefEqProofs only [go_sem,hfn,hk0];refine ⟨by exact rfl,hu2,by omega,?_⟩;refine ak.ly 13 mixed rfl ?_;simp -dsimp -implicitDefEqProofs only [bj,fW,uq5,uq6];have htl:cL (c.length+1) (bk eI (c++[(i:Int)]))=bk eI (c++[(i:Int)]):=bg (by simp);rcases hq2:decide ((ba (c++[(i:Int)]) c.length:Int)>m.same) with _|_
      . have hcB:aX m (dB ls ae) n c i u=bt m (dB ls ae) n (c++[(i:Int)]) ⟨u.af+1,c++[(i:Int)],u.s⟩:=by rw [aX,if_pos hsT,if_pos (by rw [dK,hq2];rfl),hu1]
        rw [hcB] at cF ⊢;clear hcB;generalize bt m (dB ls ae) n (c++[(i:Int)]) ⟨u.af+1,c++[(i:Int)],u.s⟩=w at*;obtain ⟨w,b⟩:=w;simp -dsimp -implicitDefEqProofs only [go_sem,htk,ot,htl];(refine an (cO) ?_;try simp -dsimp -implicitDefEqProofs only [go_sem, *]);refine ⟨by exact rfl,?_⟩;refine c7 hih ⟨⟨?_,?_⟩,?_,?_⟩ ?_
        . simp -dsimp -implicitDefEqProofs only [go_sem]
        . simp -dsimp -implicitDefEqProofs only [go_sem];simp [ao,au,ct]
        . simp -dsimp -implicitDefEqProofs only [go_sem]
        . simp -dsimp -implicitDefEqProofs only [go_sem];simp
        rintro r m' ⟨hr,hm'⟩;rw [hr,hm'];clear hr hm';cases b with
        |false=>
         rw [cF rfl];simp -dsimp -implicitDefEqProofs only [go_sem];refine ⟨by omega,_,rfl,aN ?_ ?_⟩
         . simp -dsimp -implicitDefEqProofs only [go_sem]
         simp -dsimp -implicitDefEqProofs only [go_sem];simp [ao,au,ct]
        |true=>
         simp -dsimp -implicitDefEqProofs only [go_sem];exact ⟨by omega,⟨by omega,by omega⟩,by simp⟩
      have hcB:aX m (dB ls ae) n c i u=(⟨u.af+1,c++[(i:Int)],u.s⟩,true):=by rw [aX,if_pos hsT,if_neg (by rw [dK,hq2];exact fun h=>by cases h),hu1]
      rw [hcB];clear hcB cF;simp -dsimp -implicitDefEqProofs only [go_sem,htk,ot,htl];(refine an (cO) ?_;try simp -dsimp -implicitDefEqProofs only [go_sem, *]);exact ⟨by exact rfl,by omega,⟨by omega,by omega⟩,by simp⟩
    have hkp:=oT hk0;have hla:c.getD (c.length-1) 0=c[c.length-1]:=by simp [uq7,show c.length-1<c.length by omega]
    have kh:(bk eI u.zs)[c.length-1]? =some (eI (c.getD (c.length-1) 0)):=by
     have h1:(cL c.length (bk eI u.zs))[c.length-1]? =(bk eI u.zs)[c.length-1]? :=by rw [List.getElem?_take];simp;omega
     rw [←h1,htk,hla];simp [show c.length-1<c.length by omega]
    have hlb:=hc _ (uq9 (show c.length-1<c.length by omega));rw [←hla] at hlb;generalize c.getD (c.length-1) 0=z at*;clear hla;have e1:((c.length:Int)-1).toNat=c.length-1:=by omega
    have p5:=ju ((i:Int)-z) (by omega);rcases hq:decide (fg ((i:Int)-z)>m.step) with _|_
    . have hsT:bP m c i=true:=by rw [l4,hq];simp
      simp -dsimp -implicitDefEqProofs only [go_sem,hfn,hk0,e1,kh];refine ⟨⟨by omega,by omega⟩,⟨by omega,by omega⟩,⟨by omega,by omega⟩,?_⟩;(refine an (p5) ?_;try simp -dsimp -implicitDefEqProofs only [go_sem, *]);refine ⟨by exact rfl,by omega,?_⟩;refine ak.ly 13 mixed rfl ?_;simp -dsimp -implicitDefEqProofs only [bj,fW,uq5,uq6];have htl:cL (c.length+1) (bk eI (c++[(i:Int)]))=bk eI (c++[(i:Int)]):=bg (by simp);rcases hq2:decide ((ba (c++[(i:Int)]) c.length:Int)>m.same) with _|_
      . have hcB:aX m (dB ls ae) n c i u=bt m (dB ls ae) n (c++[(i:Int)]) ⟨u.af+1,c++[(i:Int)],u.s⟩:=by rw [aX,if_pos hsT,if_pos (by rw [dK,hq2];rfl),hu1]
        rw [hcB] at cF ⊢;clear hcB;generalize bt m (dB ls ae) n (c++[(i:Int)]) ⟨u.af+1,c++[(i:Int)],u.s⟩=w at*;obtain ⟨w,b⟩:=w;simp -dsimp -implicitDefEqProofs only [go_sem,htl];(refine an (cO) ?_;try simp -dsimp -implicitDefEqProofs only [go_sem, *]);refine ⟨by exact rfl,?_⟩;refine c7 hih ⟨⟨?_,?_⟩,?_,?_⟩ ?_
        . simp -dsimp -implicitDefEqProofs only [go_sem]
        . simp -dsimp -implicitDefEqProofs only [go_sem];simp [ao,au,ct]
        . simp -dsimp -implicitDefEqProofs only [go_sem]
        . simp -dsimp -implicitDefEqProofs only [go_sem];simp
        rintro r m' ⟨hr,hm'⟩;rw [hr,hm'];clear hr hm';cases b with
        |false=>
         rw [cF rfl];simp -dsimp -implicitDefEqProofs only [go_sem];refine ⟨by omega,_,rfl,aN ?_ ?_⟩
         . simp -dsimp -implicitDefEqProofs only [go_sem]
         simp -dsimp -implicitDefEqProofs only [go_sem];simp [ao,au,ct]
        |true=>
         simp -dsimp -implicitDefEqProofs only [go_sem];exact ⟨by omega,⟨by omega,by omega⟩,by simp⟩
      have hcB:aX m (dB ls ae) n c i u=(⟨u.af+1,c++[(i:Int)],u.s⟩,true):=by rw [aX,if_pos hsT,if_neg (by rw [dK,hq2];exact fun h=>by cases h),hu1]
      rw [hcB];clear hcB cF;simp -dsimp -implicitDefEqProofs only [go_sem,htl];(refine an (cO) ?_;try simp -dsimp -implicitDefEqProofs only [go_sem, *]);exact ⟨by exact rfl,by omega,⟨by omega,by omega⟩,by simp⟩
    have hsF:bP m c i=false:=by
     rw [l4,hq];cases c with
     |nil=>simp at hkp
     |cons=>rfl
    have hcB:aX m (dB ls ae) n c i u=(u,true):=by rw [aX,if_neg (by rw [hsF];exact fun h=>by cases h)]
    rw [hcB];clear hcB cF;simp -dsimp -implicitDefEqProofs only [go_sem,hfn,hk0,e1,kh];refine ⟨⟨by omega,by omega⟩,⟨by omega,by omega⟩,⟨by omega,by omega⟩,?_⟩;(refine an (p5) ?_;try simp -dsimp -implicitDefEqProofs only [go_sem, *]);exact ⟨by exact rfl,⟨by omega,by omega⟩,by simp⟩
  simp -dsimp -implicitDefEqProofs only [pz,bC,bD,bx,↓reduceIte,aT];have hlt:decide (((m.aq.toNat:Nat):Int)<m.aq)=false:=dF (by omega);simp -dsimp -implicitDefEqProofs only [go_sem,hlt];rw [dS];refine ⟨_,⟨by rw [hI],rfl⟩,aN ?_ ?_⟩
  . simp -dsimp -implicitDefEqProofs only [go_sem]
  simp -dsimp -implicitDefEqProofs only [go_sem];simp [ao,au,ct]
def dn (ls:List lL) (k:lI):Nat:=(bI ls k ls.length).length
def Gu (ls:List lL) (ae ks:lL) (d:Nat):Option lI:=ks.find? fun k=> !DU ae k&&decide (dn ls k=d)
def NG (ls:List lL) (ae ks:lL):Nat->lL
 |0=>[]
 |d+1=>match Gu ls ae ks (d+1) with
  |some k=>[k]
  |none=>NG ls ae ks d
theorem Kv (ls:List lL) (ae ks:lL):∀d,∀k∈NG ls ae ks d,k∈ks
 |0,k,h=>by cases h
 |d+1,k,h=>by
  unfold NG at h;split at h
  . rename_i k' e;rw [List.mem_singleton] at h;subst h;exact List.mem_of_find?_eq_some e
  exact Kv ls ae ks d k h
theorem Cd (ls:List lL) (ae:lL) (n1:Nat) (hn:ls.length<n1):∀(ks:lL) (st:List (Option lI)),st.length=n1→
 (bH (dB ls ae) st ks).2=true/\(bH (dB ls ae) st ks).1.length=n1/\(bH (dB ls ae) st ks).1.getD 0 none=st.getD 0 none∧
   ∀d,0<d->d<n1->(bH (dB ls ae) st ks).1.getD d none=(st.getD d none).or (Gu ls ae ks d)
 | [],st,h=>⟨rfl,h,rfl,fun d _ _=>by simp [bH,Gu]⟩
 |k::ks,st,h=>by
  have ht:(dB ls ae st k).2=true:=rfl;have hl:(dB ls ae st k).1.length=n1:=Cc n1 ls ae 0 st k h;obtain ⟨i1,i2,i3,i4⟩:=Cd ls ae n1 hn ks (dB ls ae st k).1 hl;rw [bH,if_pos ht];have hdl:(bI ls k ls.length).length<=ls.length:=gA ls k ls.length;refine ⟨i1,i2,?_,fun d hd hdn=> ?_⟩
  . rw [i3];unfold dB;simp only;split
    . rfl
    split
    . rename_i h0;rw [uq7,List.getElem?_set_ne (by omega),←uq7]
    rfl
  rw [i4 d hd hdn];unfold Gu;rw [List.find?_cons];unfold dB;simp only;cases hin:DU ae k with
  |true=>simp
  |false=>
   rw [if_neg (by simp)];simp only [Bool.not_false,uq3];by_cases e:dn ls k=d
   . rw [decide_eq_true e];simp only;have e':(bI ls k ls.length).length=d:=e;rw [e'];by_cases hz:st.getD d none=none
     . rw [if_pos ⟨hd,hz⟩,hz,uq7,List.getElem?_set_self (by omega)];rfl
     rw [if_neg (fun hh=>hz hh.2)];cases hs:st.getD d none with
     |none=>exact absurd hs hz
     |some x=>rfl
   rw [decide_eq_false e];simp only;split
   . rw [uq7,List.getElem?_set_ne (by exact e),←uq7]
   rfl
def oF (st:List (Option lI)) (n:Nat) (l:lN):Option lI:=l.foldl (fun o x=>o.or (st.getD (n-1-x) none)) none
theorem Dt (st:List (Option lI)) (n:Nat) (l:lN) (x:Nat):oF st n (l++[x])=(oF st n l).or (st.getD (n-1-x) none):=by simp [oF]
theorem Gv (ls:List lL) (ae ks:lL) (st:List (Option lI)) (n:Nat) (h:∀d,0<d->d<n+1->st.getD d none=Gu ls ae ks d):
 ∀k,k<=n->NG ls ae ks n=match oF st (n+1) (cf k) with|some x=>[x]|none=>NG ls ae ks (n-k)
 |0,_=>rfl
 |k+1,hk=>by
  have ih:=Gv ls ae ks st n h k (by omega);rw [ih,List.range_succ,Dt];cases ho:oF st (n+1) (cf k) with
  |some x=>rfl
  |none=>
   simp only [Option.none_or];rw [h (n+1-1-k) (by omega) (by omega)];obtain ⟨d,hd⟩:∃d,n-k=d+1:=⟨n-k-1,by omega⟩;rw [hd,show n+1-1-k=d+1 by omega,show n-(k+1)=d by omega,NG]
theorem V5 (ls:List lL) (ae ks:lL) (st:List (Option lI)) (n:Nat) (h0:st.getD 0 none=none) (h:∀d,0<d->d<n+1->st.getD d none=Gu ls ae ks d):
 (oF st (n+1) (cf (n+1))).toList=NG ls ae ks n:=by
 rw [Gv ls ae ks st n h n (gB _),List.range_succ,Dt,show n+1-1-n=0 by omega,h0,show n-n=0 by omega];cases oF st (n+1) (cf n)<;>rfl
def pY (ls:List lL) (gs:lL) (d:Nat):Option lI:=gs.find? fun k=>decide (dn ls k=d)
theorem Gw (ls:List lL) (ae ks:lL) (d:Nat) (hd:0<d):pY ls (ks.filter (Ks ls ae)) d=Gu ls ae ks d:=by
 unfold pY Gu;rw [List.find?_filter];congr 1;funext k;unfold Ks;rw [tX ls k ls.length (gB _)];by_cases e:dn ls k=d
 . have:0<(bI ls k ls.length).length:=by unfold dn at e;omega
   rw [decide_eq_true this,decide_eq_true e,uq3];simp
 rw [decide_eq_false e];simp
theorem Nb (ls:List lL) (gs:lL) (d i:Nat) (h:i<gs.length) (hn:pY ls (gs.take i) d=none):pY ls (gs.take (i+1)) d=if dn ls gs[i]=d then some gs[i] else none:=by
 unfold pY at*;rw [aP h,List.find?_append,hn,Option.none_or,List.find?_cons];by_cases e:dn ls gs[i]=d
 . rw [decide_eq_true e,if_pos e]
 rw [decide_eq_false e,if_neg e];rfl
theorem Nc (ls:List lL) (gs:lL) (d i:Nat) (k:lI) (h:pY ls (gs.take i) d=some k):pY ls gs d=some k:=by
 unfold pY at*;conv=>lhs;rw [←List.take_append_drop i gs,List.find?_append,h]
 rfl
def Nd (ls:List lL) (gs:lL) (n:Nat):Nat->Option lI
 |0=>none
 |i+1=>(Nd ls gs n i).or (pY ls gs (n-i))
theorem Kw (ls:List lL) (ae ks:lL) (n:Nat):∀i,i<=n->NG ls ae ks n=match Nd ls (ks.filter (Ks ls ae)) n i with|some k=>[k]|none=>NG ls ae ks (n-i)
 |0,_=>rfl
 |i+1,h=>by
  rw [Kw ls ae ks n i (by omega),Nd];cases Nd ls (ks.filter (Ks ls ae)) n i with
  |some k=>rfl
  |none=>
   obtain ⟨d,hd⟩:∃d,n-i=d+1:=⟨n-i-1,by omega⟩;rw [Option.none_or,Gw ls ae ks (n-i) (by omega),hd,show n-(i+1)=d by omega];simp only [NG]
theorem Tv (ls:List lL) (ae ks:lL) (n:Nat):(Nd ls (ks.filter (Ks ls ae)) n n).toList=NG ls ae ks n:=by rw [Kw ls ae ks n n (gB _),Nat.sub_self];cases Nd ls (ks.filter (Ks ls ae)) n n<;>rfl
theorem Uw {m:aL} {t ae:lL} (hF:M9 m t ae):Gt m ae (aA m t ae (t.getD 0 []).length) ((t.getD 0 []).length+1):=by
 have hll:(aA m t ae (t.getD 0 []).length).length=(t.getD 0 []).length:=by rw [aA,cr,bB]
 have hwd:=hF.wd;have vS:=hF.num;refine ⟨by have:=hF.tl;have:=hF.le;omega,fun x hx=>by have:=(hF.cut x hx).1;omega,by omega,fun l hl=> ?_,by omega⟩;obtain ⟨k,_,rfl⟩:=lY hl;obtain ⟨h1,h2⟩:=tS hF k;exact ⟨h1,fun x hx=>by have:=h2 x hx;omega⟩
def Ce (m:aL) (t ae:lL):lI:=(bH (bV (aA m t ae (t.getD 0 []).length) ae) (cH ((t.getD 0 []).length+1) 0) (bE m)).1
theorem Gx (m:aL) (t ae:lL) (hF:M9 m t ae):Fn pG 233 [jR m t,aR ae] true (· =aM (Ce m t ae)):=by
 refine Fn.av 18 [.tmp 4] func233 (hv:= ?_);have hV:=Uw hF;have hm:=hF.pR;have vS:=hF.num;have hwd:=hF.wd;have hp:=gv m t ae hF.pR hF.tl hF.le hF.t0 hF.row hF.wd hF.cut;have ht0:=hF.t0;have g0:=get_some ht0;have eg:t[0]=t.getD 0 []:=by rw [uq7,g0];rfl
 rw [eg] at g0;have h0:qq ((t.getD 0 []).length+1) 0 (cH ((t.getD 0 []).length+1) (0:Int)):=⟨by simp,fun x hx=>by have:=List.eq_of_mem_replicate hx;omega⟩;have h8:(8:Nat)^m.ah.toNat<=8^6:=Nat.pow_le_pow_right (by decide) (by omega);have eW:=XG m hm ae _ _ hV m.ah.toNat [] ⟨0,[],cH ((t.getD 0 []).length+1) 0⟩ (by simp;omega) (fun x hx=>by cases hx) ⟨rfl,gB _⟩ ⟨0,h0,by omega⟩;have hsp:=(iG m (bV (aA m t ae (t.getD 0 []).length) ae) m.ah.toNat [] ⟨0,[],cH ((t.getD 0 []).length+1) 0⟩ ⟨rfl,gB _⟩).2.1;unfold Ce;rw [show bc m m.ah.toNat []=bE m from rfl] at hsp;have hll:(aA m t ae (t.getD 0 []).length).length=(t.getD 0 []).length:=by rw [aA,cr,bB]
 have hwl:=(rb (aA m t ae (t.getD 0 []).length) ae (bE m) (cH ((t.getD 0 []).length+1) 0) (by rw [hll,List.length_replicate])).2.1;rw [←hsp] at hwl ⊢;rw [hll] at hwl;clear hsp h0 h8 hV hll;generalize bt m (bV (aA m t ae (t.getD 0 []).length) ae) m.ah.toNat [] ⟨0,[],cH ((t.getD 0 []).length+1) 0⟩=w at*;generalize aA m t ae (t.getD 0 []).length=ls at*;generalize t.getD 0 []=r0 at*;simp only [bQ,cP] at eW;have eN:((r0.length:Int)+1).toNat=r0.length+1:=by omega
 simp -dsimp -implicitDefEqProofs only [go_sem,g0,eN];((with_reducible and_intros);all_goals try first|omega|(refine ⟨?_,?_⟩<;>omega));refine cn 300000 14 [] func171 rfl rfl rfl rfl rfl (by exact oT rfl) ?_;simp -dsimp -implicitDefEqProofs only [go_sem];refine ax hp (by simp [ay,ao,au,aH]) ?_;simp -dsimp -implicitDefEqProofs only [go_sem];refine oV 1600000000 310000 16 [] func222 rfl rfl rfl rfl rfl (by exact oT rfl) ?_;simp -dsimp -implicitDefEqProofs only [go_sem];refine jr 1700000000 eW ⟨?_,?_⟩ ⟨⟨?_,?_⟩,?_,?_⟩ ?_
 . simp -dsimp -implicitDefEqProofs only [go_sem]
 . simp -dsimp -implicitDefEqProofs only [go_sem]
 . simp -dsimp -implicitDefEqProofs only [go_sem]
 . simp -dsimp -implicitDefEqProofs only [go_sem];simp [ao,au,ct]
 . simp -dsimp -implicitDefEqProofs only [go_sem,List.map_replicate]
 . simp -dsimp -implicitDefEqProofs only [go_sem];simp
 rintro r m' ⟨hr,hm'⟩;rw [hr,hm'];simp -dsimp -implicitDefEqProofs only [go_sem];refine ⟨⟨by omega,by simp⟩,by rw [bg (by simp;omega)]⟩
theorem V6 (xs:lI) (h:xs.length<=1048576) (h0:∀x∈xs,0<=x/\x<=1000000):Fn pG 232 [aM xs] true (· =eI xs.sum):=by
 refine Fn.av 17 [.tmp 2] func232 (hv:= ?_);simp -dsimp -implicitDefEqProofs only [go_sem];refine ak.up [6,7] [] [] xs.length (fun i=>0<=(xs.take i).sum/\(xs.take i).sum<=1000000*i) (fun i=>[(8,eI i),(3,eI (xs.take i).sum)]) (fun _=>[]) (by simp) ?_ rfl (fun i hi hI=> ?_) (fun hI=> ?_)
 . simp -dsimp -implicitDefEqProofs only [go_sem];all_goals first|rfl|skip
 . have gi:=get_some hi;have hx:=h0 _ (uq9 hi);have hs:(xs.take (i+1)).sum=(xs.take i).sum+xs[i]:=by rw [aP hi,List.sum_append];simp
   rw [hs];generalize (xs.take i).sum=s at*;generalize xs[i]=x at*;simp -dsimp -implicitDefEqProofs only [pz,↓reduceIte,aT];simp -dsimp -implicitDefEqProofs only [go_sem,aG hi,gi];((with_reducible and_intros);all_goals try first|omega|(refine ⟨?_,?_⟩<;>omega)|exact rfl)
 simp -dsimp -implicitDefEqProofs only [pz,↓reduceIte,aT];simp -dsimp -implicitDefEqProofs only [go_sem,aC,aY]
theorem yY (m:aL) (t ae:lL) (h:t.length<=1048576) (h2:∀x∈t,x.length<=1048576) (h3:ae.length<=1048576) (h4:∀x∈ae,x.length<=1048576):Fn pG 179 [jR m t,aR ae] true (· = .aZ [eI (if bm m t ae=true then (cq m t ae).length else 0),eI (if bm m t ae=true then 0 else 1)]):=by
 refine Fn.av 18 [.tmp 4,.tmp 5] func179 (hv:= ?_);have hc:=kp m t ae h h2 h3 h4;rcases hd:bm m t ae with _|_
 . rw [hd,if_neg (by simp)] at hc;rw [if_neg (by simp),if_neg (by simp)];have e:((1:Int) != 0)=true:=rfl;simp -dsimp -implicitDefEqProofs only [go_sem];refine ab hc ?_;simp -dsimp -implicitDefEqProofs only [go_sem,e]
 rw [hd,if_pos rfl] at hc;rw [if_pos rfl,if_pos rfl];have hF:=ja hd;have hp:=Gx m t ae hF;have hll:(aA m t ae (t.getD 0 []).length).length=(t.getD 0 []).length:=by rw [aA,cr,bB]
 obtain ⟨-,v1,v2⟩:=rb (aA m t ae (t.getD 0 []).length) ae (bE m) (cH ((t.getD 0 []).length+1) 0) (by rw [hll,List.length_replicate]);have hz:((cH ((t.getD 0 []).length+1) (0:Int)).drop 1).sum=0:=by simp
 rw [hz,Int.zero_add] at v2;have v2:((Ce m t ae).drop 1).sum=((cq m t ae).length:Int):=v2;have hJ:∃b,qq ((t.getD 0 []).length+1) b (Ce m t ae)/\b<=1000000:=by have h0:qq ((t.getD 0 []).length+1) 0 (cH ((t.getD 0 []).length+1) (0:Int)):=⟨by simp,fun x hx=>by have:=List.eq_of_mem_replicate hx;omega⟩;have vS:=hF.num;have h8:(8:Nat)^m.ah.toNat<=8^6:=Nat.pow_le_pow_right (by decide) (by omega);have hsp:=(iG m (bV (aA m t ae (t.getD 0 []).length) ae) m.ah.toNat [] ⟨0,[],cH ((t.getD 0 []).length+1) 0⟩ ⟨rfl,gB _⟩).2.1;have hj:=yW hF.pR (nP ((t.getD 0 []).length+1)) (yX ((t.getD 0 []).length+1) (aA m t ae (t.getD 0 []).length) ae) m.ah.toNat [] ⟨0,[],cH ((t.getD 0 []).length+1) 0⟩ 0 h0;rw [hsp] at hj;exact ⟨_,hj,by omega⟩
 obtain ⟨b,⟨hl,hb⟩,hb6⟩:=hJ;have hwd:=hF.wd;have hs:=V6 ((Ce m t ae).drop 1) (by simp;omega) (fun x hx=>by have:=hb x (List.mem_of_mem_drop hx);omega);rw [v2] at hs;generalize Ce m t ae=st at*;have e:((0:Int) != 0)=false:=rfl;have eT:cL (st.length-1) (List.drop 1 (bk eI st))=bk eI (List.drop 1 st):=by rw [List.map_drop,bg (by simp)]
 simp -dsimp -implicitDefEqProofs only [go_sem];refine ab hc ?_;simp -dsimp -implicitDefEqProofs only [go_sem,e];refine ab hp ?_;simp -dsimp -implicitDefEqProofs only [go_sem,eT];((with_reducible and_intros);all_goals try (omega));refine ab hs ?_;simp -dsimp -implicitDefEqProofs only [go_sem]
def yZ (m:aL) (t ae:lL):lL:=if bm m t ae=true then NG (aA m t ae (t.getD 0 []).length) ae (bE m) (t.getD 0 []).length else []
theorem Tw (b1 b2 b3 b4 b5:bh) (l:Nat):(if 1500000010=l then some b1 else if 1500000033=l then some b2 else if 1500000010=l then some b3 else if 1500000033=l then some b4 else if 1500000005=l then some b5 else none)=
 aj [(1500000010,b1),(1500000033,b2),(1500000005,b5)] l:=by
 simp only [aw,sU];by_cases h1:1500000010=l
 . rw [if_pos h1,if_pos h1]
 by_cases h2:1500000033=l
 . rw [if_neg h1,if_pos h2,if_neg h1,if_pos h2]
 rw [if_neg h1,if_neg h1,if_neg h1,if_neg h2,if_neg h2,if_neg h2]
theorem QE (m:aL) (t ae:lL) (h:t.length<=1048576) (h2:∀x∈t,x.length<=1048576) (h3:ae.length<=1048576) (h4:∀x∈ae,x.length<=1048576):Fn pG 123 [jR m t,aR ae,eI 1] false (fun r=>sS r (.aZ [aR (yZ m t ae),eI (if bm m t ae=true then 0 else 1)])):=by
 refine Fn.Yx func123 rfl rfl (oT rfl) ?_;have er:(Tryz.f123).results.toList=[.tmp 6,.tmp 7]:=rfl;have hc:=kp m t ae h h2 h3 h4;unfold yZ;rcases hd:bm m t ae with _|_
 . rw [hd,if_neg (by simp)] at hc;rw [if_neg (by simp),if_neg (by simp)];have e:((1:Int) != 0)=true:=rfl;refine C6.seq (by exact rfl) ?_;simp -dsimp -implicitDefEqProofs only [go_sem];refine C6.seq (by exact rfl) ?_;simp -dsimp -implicitDefEqProofs only [go_sem];refine ab hc ?_;simp -dsimp -implicitDefEqProofs only [go_sem,er,e]
 rw [hd,if_pos rfl] at hc;rw [if_pos rfl,if_pos rfl];have e:((0:Int) != 0)=false:=rfl;have hw:=kU 1 0 300;rw [show bF 1 0 300=true from rfl] at hw;have hF:=ja hd;have hV:=Uw hF;have hm:=hF.pR;have vS:=hF.num;have hwd:=hF.wd;have hp:=gv m t ae hF.pR hF.tl hF.le hF.t0 hF.row hF.wd hF.cut;have ht0:=hF.t0;have g0:=get_some ht0;have eg:t[0]=t.getD 0 []:=by rw [uq7,g0];rfl
 rw [eg] at g0;refine C6.seq (by exact rfl) ?_;simp -dsimp -implicitDefEqProofs only [go_sem];refine C6.seq (by exact rfl) ?_;simp -dsimp -implicitDefEqProofs only [go_sem];refine ab hc ?_;simp -dsimp -implicitDefEqProofs only [go_sem,e];refine C6.seq (by exact rfl) ?_;simp -dsimp -implicitDefEqProofs only [go_sem];refine ab hw ?_;simp -dsimp -implicitDefEqProofs only [go_sem];refine C6.seq (by exact rfl) ?_;have eN:(((t.getD 0 []).length:Int)+1).toNat=(t.getD 0 []).length+1:=by omega
 simp -dsimp -implicitDefEqProofs only [go_sem,g0,eN];((with_reducible and_intros);all_goals try first|omega|(refine ⟨?_,?_⟩<;>omega))
 have eW:=XI m hm ae _ _ hV m.ah.toNat [] ⟨0,[],cH ((t.getD 0 []).length+1) none⟩ (by simp;omega) (fun x hx=>by cases hx) ⟨rfl,gB _⟩ (by
  have h8:(8:Nat)^m.ah.toNat<=8^6:=Nat.pow_le_pow_right (by decide) (by omega)
  exact ⟨0,by simp [Ds],by omega⟩)
 have hsp:=(iG m (dB (aA m t ae (t.getD 0 []).length) ae) m.ah.toNat [] ⟨0,[],cH ((t.getD 0 []).length+1) none⟩ ⟨rfl,gB _⟩).2.1;rw [show bc m m.ah.toNat []=bE m from rfl] at hsp;have hll:(aA m t ae (t.getD 0 []).length).length=(t.getD 0 []).length:=by rw [aA,cr,bB]
 obtain ⟨-,w1,w2,w3⟩:=Cd (aA m t ae (t.getD 0 []).length) ae ((t.getD 0 []).length+1) (by omega) (bE m) (cH ((t.getD 0 []).length+1) none) (by simp)
 have hw:=V5 (aA m t ae (t.getD 0 []).length) ae (bE m) _ (t.getD 0 []).length (w2.trans (by simp [uq7])) (fun d h0 h1=>(w3 d h0 (by omega)).trans (by
  have:(cH ((t.getD 0 []).length+1) (none:Option lI)).getD d none=none:=by rw [uq7,List.getElem?_replicate];split<;>rfl
  rw [this,Option.none_or]))
 rw [←hsp] at w1 hw;rw [←hw];clear hsp hw w2 w3 hV hll;generalize bt m (dB (aA m t ae (t.getD 0 []).length) ae) m.ah.toNat [] ⟨0,[],cH ((t.getD 0 []).length+1) none⟩=w at*;generalize aA m t ae (t.getD 0 []).length=ls at*;generalize t.getD 0 []=r0 at*;simp only [bQ,cP] at eW;generalize hoo:(oF w.1.s (r0.length+1) (cf (r0.length+1))).toList=R;refine C6.Cw 28 0 ⟨1,false⟩ (cH (r0.length+1) (AV.val (Value.slice none 0 0))) (by decide) rfl ?_;refine C6.seq (by exact rfl) ?_;simp -dsimp -implicitDefEqProofs only [go_sem];refine cn 300000 14 [] func171 rfl rfl rfl rfl rfl (by exact oT rfl) ?_;simp -dsimp -implicitDefEqProofs only [go_sem];refine ax hp (by simp [ay,ao,au,aH]) ?_;simp -dsimp -implicitDefEqProofs only [go_sem];refine oV 1600000000 310000 16 [] func222 rfl rfl rfl rfl rfl (by exact oT rfl) ?_;simp -dsimp -implicitDefEqProofs only [go_sem];refine jr 1700000000 eW ⟨?_,?_⟩ ⟨⟨?_,?_⟩,?_,?_⟩ ?_
 . simp -dsimp -implicitDefEqProofs only [go_sem]
 . simp -dsimp -implicitDefEqProofs only [go_sem]
 . simp -dsimp -implicitDefEqProofs only [go_sem]
 . simp -dsimp -implicitDefEqProofs only [go_sem];simp [ao,au,ct]
 . simp -dsimp -implicitDefEqProofs only [go_sem,List.map_replicate,Hc]
 . simp -dsimp -implicitDefEqProofs only [go_sem];simp
 rintro r m' ⟨hr,hm'⟩;rw [hr,hm'];simp -dsimp -implicitDefEqProofs only [go_sem];refine C6.seq (by exact rfl) ?_;simp -dsimp -implicitDefEqProofs only [go_sem];refine C6.Yw (by exact rfl) ?_;simp -dsimp -implicitDefEqProofs only [go_sem];refine ⟨by omega,?_⟩;refine kQ 28 0 ⟨1,false⟩ false (bk Hc w.1.s) (Jd (cL (r0.length+1) (List.drop 0 (bk Hc w.1.s)))) (by decide) rfl ?_ (fun r hr=> ?_)
 . exact mO 0 (r0.length+1) (by simp [w1]) Mg
 have ez:cL (r0.length+1) (List.drop 0 (bk Hc w.1.s))=bk Hc w.1.s:=by rw [uq6,bg (by simp [w1])]
 rw [ez] at hr;rw [hr];simp -dsimp -implicitDefEqProofs only [go_sem];refine Ut.keep [10,33,5] [(10,.box 0 [.ref 33 0 0 0]),(33,.row 0 ⟨1,false⟩ true []),(5,.box 0 [eI 1])] [(10,.ptr 10 0 0 0),(5,.ptr 5 0 0 0),(35,.cy 225 [.bu ⟨1,false⟩ [.arr ⟨1,false⟩ (bk Hc w.1.s)] 0 0])] (aN ?_ ?_) ?_ ?_ ?_
 . simp -dsimp -implicitDefEqProofs only [go_sem]
 . simp -dsimp -implicitDefEqProofs only [go_sem];simp
 . simp -dsimp -implicitDefEqProofs only [go_sem]
 . simp [ao,au]
 have hr0:r0.length<=1000:=hwd;clear eW hm' hr hc hF vS hwd hp
 refine Ut.VP (ys:=gN (w.1.s.map fun o=>aR o.toList)) 10 (fun pre m1=>∃v,m1=[(1500000010,.box 0 [.ref 1500000033 v 0 (oF w.1.s (r0.length+1) (pre.map (·.1))).toList.length]),(1500000033,.row v ⟨1,false⟩ (oF w.1.s (r0.length+1) (pre.map (·.1))).isNone ((oF w.1.s (r0.length+1) (pre.map (·.1))).toList.map aM)),(1500000005,.box 0 [eI 1])]) [(10,.ptr 1500000010 0 0 0),(5,.ptr 1500000005 0 0 0),(35,.cy 225 [.bu ⟨1,false⟩ [.arr ⟨1,false⟩ (bk Hc w.1.s)] 0 0])] ?_ mixed rfl (by simp [ao,au])
  (Dq _ _ (by simp) (fun i h1 h2=> ?_) (by rw [cr,w1];omega)) ?_ ⟨_,⟨0,rfl⟩,fun l=> ?_⟩ (fun pre m1 ⟨v,h⟩=>by rw [h];simp [qj,bG]) (by exact rfl) (by exact rfl) (fun pre x m1 hp hm1=> ?_) (fun m1 hm1=> ?_)
 . simp -dsimp -implicitDefEqProofs only [go_sem]
 . simp only [List.getElem_map];refine ⟨_,rfl,?_⟩;cases w.1.s[i]'(by simpa using h1) with
   |none=>exact .inr ⟨rfl,rfl⟩
   |some k=>exact .inl rfl
 . simp -dsimp -implicitDefEqProofs only [go_sem]
 . simp -dsimp -implicitDefEqProofs only [go_sem];simp [oF]
 . obtain ⟨v,rfl⟩:=hm1;have hx:x.1<w.1.s.length:=Nat.lt_of_lt_of_eq x.2 (by rw [pS,cr]);have ey:(gN (w.1.s.map fun o=>aR o.toList))[x]=(eI ((r0.length-x.1:Nat):Int),aR (w.1.s.getD (r0.length+1-1-x.1) none).toList):=by
    rw [Ca,cr,w1,uq7,List.getElem?_map,uq7 (l:=w.1.s),uq8 (by omega)];rfl
   rw [ey,bR,cK,cP,Dt];generalize w.1.s.getD (r0.length+1-1-x.1) none=z at*;generalize oF w.1.s (r0.length+1) (pre.map (·.1))=o at*;simp -dsimp -implicitDefEqProofs only [bj,fW,uq5,uq6];have t0:Int.toNat 0=0:=rfl;have t1:Int.toNat 1=1:=rfl;rcases o with _|k0<;>rcases z with _|k1
   . simp only [DK,bQ,cP,G8,Option.none_or];have f:(if (1:Int)-0<0 then (1:Int)-0 else 0)=0:=by decide
     simp -dsimp -implicitDefEqProofs only [go_sem,f,t0];((with_reducible and_intros);all_goals try first|omega|(refine ⟨?_,?_⟩<;>omega)|exact rfl);exact ⟨_,⟨v+1,rfl⟩,Tw _ _ _ _ _⟩
   . simp only [DK,DL,bQ,bW,cK,cP,G8,G9,Option.none_or];have f:(if (1:Int)-0<((1:Nat):Int) then (1:Int)-0 else ((1:Nat):Int))=1:=by decide
     simp -dsimp -implicitDefEqProofs only [go_sem,f,t1];((with_reducible and_intros);all_goals try first|omega|(refine ⟨?_,?_⟩<;>omega)|exact rfl);exact ⟨_,⟨v+1,rfl⟩,Tw _ _ _ _ _⟩
   . simp only [DK,DL,bQ,bW,cK,cP,G9,Option.some_or];have f:(if (1:Int)-((1:Nat):Int)<0 then (1:Int)-((1:Nat):Int) else 0)=0:=by decide
     simp -dsimp -implicitDefEqProofs only [go_sem,f,t0];((with_reducible and_intros);all_goals try first|omega|(refine ⟨?_,?_⟩<;>omega)|exact rfl);exact ⟨_,⟨v+1,rfl⟩,Tw _ _ _ _ _⟩
   simp only [DL,bQ,bW,cK,cP,G9,Option.some_or];have f:(if (1:Int)-((1:Nat):Int)<((1:Nat):Int) then (1:Int)-((1:Nat):Int) else ((1:Nat):Int))=0:=by decide
   simp -dsimp -implicitDefEqProofs only [go_sem,f,t0];((with_reducible and_intros);all_goals try first|omega|(refine ⟨?_,?_⟩<;>omega)|exact rfl);exact ⟨_,⟨v+1,rfl⟩,Tw _ _ _ _ _⟩
 obtain ⟨v,rfl⟩:=hm1;have hn:(gN (w.1.s.map fun o=>aR o.toList)).length=r0.length+1:=by rw [pS,cr,w1]
 have ef:∀n,((List.finRange n).map (·.1))=cf n:=fun n=>List.ext_getElem (by simp) (fun i h1 h2=>by simp);rw [ef,hn];generalize oF w.1.s (r0.length+1) (cf (r0.length+1))=o at*;subst hoo;simp -dsimp -implicitDefEqProofs only [go_sem,er]
theorem QF (m:aL) (t ae:lL) (h:t.length<=1048576) (h2:∀x∈t,x.length<=1048576) (h3:ae.length<=1048576) (h4:∀x∈ae,x.length<=1048576):Fn pG 106 [jR m t,aR ae,eI 1] false (fun r=>sS r (.aZ [aR (yZ m t ae),eI (if bm m t ae=true then 0 else 1)])):=by
 refine Fn.cg 69 [.tmp 6,.tmp 7] func106 (hv:= ?_);have hc:=pP m t ae h h2 h3 h4;unfold yZ;rcases hd:bm m t ae with _|_
 . rw [hd,if_neg (by simp)] at hc;rw [if_neg (by simp),if_neg (by simp)];have e:((1:Int) != 0)=true:=rfl;have e2:((1:Int)==0)=false:=rfl;simp -dsimp -implicitDefEqProofs only [go_sem];refine ab hc ?_;simp -dsimp -implicitDefEqProofs only [go_sem,e,e2]
 rw [hd,if_pos rfl] at hc;rw [if_pos rfl,if_pos rfl];have e:((0:Int) != 0)=false:=rfl;have e2:((0:Int)==0)=true:=rfl;have hF:=ja hd;have hw:=jF 1 0 300;rw [show bF 1 0 300=true from rfl] at hw;have ho:=o9 m t ae hF;have hdr:=yS m t ae hF;have hgl:=ra hF.pR t ae;have ht0:=hF.t0;have g0:=get_some ht0;have eg:t[0]=t.getD 0 []:=by rw [uq7,g0];rfl
 rw [eg] at g0;simp -dsimp -implicitDefEqProofs only [go_sem];refine ab hc ?_;simp -dsimp -implicitDefEqProofs only [go_sem,e2];refine ab hw ?_;simp -dsimp -implicitDefEqProofs only [go_sem,e];refine ax ho (by simp [ay,ao,au,aH]) ?_;have hgk:∀k∈cq m t ae,(k.length:Int)=m.ah:=fun k hk=>(kq (m:=m) (by have:=hF.num;omega) (List.mem_filter.1 hk).1).len;have hdn:∀k∈cq m t ae,Fn pG 150 [jR m t,aR ae,aM k] true (· =aM (Gp m t ae k)):=fun k hk=>hdr k (hgk k hk);have hl:∀k,(Gp m t ae k).length=dn (aA m t ae (t.getD 0 []).length) k:=fun k=>by unfold Gp dn;rw [show (aA m t ae (t.getD 0 []).length).length=(t.getD 0 []).length by rw [aA,cr,bB]]
 have cX:=Tv (aA m t ae (t.getD 0 []).length) ae (bE m) (t.getD 0 []).length;rw [show (bE m).filter (Ks (aA m t ae (t.getD 0 []).length) ae)=cq m t ae from rfl] at cX;rw [←cX];clear cX;have hwd:=hF.wd;clear hdr hgk hc hw;generalize cq m t ae=gs at*;generalize aA m t ae (t.getD 0 []).length=ls at*;generalize t.getD 0 []=r0 at*;simp -dsimp -implicitDefEqProofs only [go_sem,g0];((with_reducible and_intros);all_goals try (omega));have hb1:∀o:Option lI,o.toList.length<=1:=fun o=>by cases o<;>simp
 refine ak.up [1,2,3,9] [41,45,57,58,66,67] [29] r0.length (fun i=>True) (fun i=>[(11,eI ((r0.length-i:Nat):Int)),(10,.ref 29 0 0 (Nd ls gs r0.length i).toList.length)]) (fun i=>[(29,.row 0 ⟨1,false⟩ (Nd ls gs r0.length i).isNone ((Nd ls gs r0.length i).toList.map aM))]) trivial ?_ rfl (fun i hi _=> ?_) (fun _=> ?_)
 . simp -dsimp -implicitDefEqProofs only [go_sem,Nd,DK,G8,bQ,cP]
 . have Ye:decide (((r0.length-i:Nat):Int)>0)=true:=dT (by omega);have TN:((r0.length-i:Nat):Int)-1=((r0.length-(i+1):Nat):Int):=by omega
   have hd1:r0.length-(i+1)<=1000:=by omega
   rw [Nd];generalize r0.length-(i+1)=d1 at*;generalize r0.length-i=d at*;generalize hW:Nd ls gs r0.length i=o at*;rcases o with _|k0
   . rw [Option.none_or];simp -dsimp -implicitDefEqProofs only [pz,bC,bD,bx,↓reduceIte,aT];simp -dsimp -implicitDefEqProofs only [go_sem,Ye,DK,G8,bQ,cP];have UI:=fun j k=>Nc ls gs d j k;have UJ:=fun j h=>Nb ls gs d j h;have fU:pY ls (gs.take gs.length) d=pY ls gs d:=by rw [aY]
     have h0:pY ls [] d=none:=rfl;refine ak.up [1,2,3,9,11] [41,45,57,58,66,67] [29] gs.length (fun _=>True) (fun j=>[(12,eI j),(10,.ref 29 0 0 (pY ls (gs.take j) d).toList.length)]) (fun j=>[(29,.row 0 ⟨1,false⟩ (pY ls (gs.take j) d).isNone ((pY ls (gs.take j) d).toList.map aM))]) trivial ?_ rfl (fun j hj _=> ?_) (fun _=> ?_)
     . simp -dsimp -implicitDefEqProofs only [go_sem,h0,DK,G8,bQ,cP]
     . have gj:=get_some hj;have lj:=aG hj;have UK:=hdn _ (uq9 hj);have hln:=hl gs[j];rcases hf:pY ls (gs.take j) d with _|k1
       . rw [UJ j hj hf];clear UI UJ;generalize gs[j]=g at*;rw [←hln];generalize Gp m t ae g=D at*;have e3:decide ((0:Int)<1)=true:=rfl;by_cases hD:D.length=d
         . rw [if_pos hD];have e4:((dn ls g:Int)==(d:Int))=true:=by rw [←hln,hD];simp
           simp -dsimp -implicitDefEqProofs only [pz,bC,bD,bx,↓reduceIte,aT];simp -dsimp -implicitDefEqProofs only [go_sem,lj,e3,DK,G8,bQ,cP];refine ak.draw mixed rfl ?_;simp -dsimp -implicitDefEqProofs only [go_sem,gj];((with_reducible and_intros);all_goals try (omega));(refine an (UK) ?_;try simp -dsimp -implicitDefEqProofs only [go_sem, *]);refine ⟨by exact rfl,?_⟩;simp -dsimp -implicitDefEqProofs only [go_sem,DL,G9,bQ,bW,cP,cK,Nat.zero_add];((with_reducible and_intros);all_goals try (omega));exact .inr ⟨⟨by omega,by omega⟩,by rw [Int.natCast_add];rfl⟩
         rw [if_neg hD];have e4:((dn ls g:Int)==(d:Int))=false:=by rw [←hln];simp;omega
         simp -dsimp -implicitDefEqProofs only [pz,bC,bD,bx,↓reduceIte,aT];simp -dsimp -implicitDefEqProofs only [go_sem,lj,e3,DK,G8,bQ,cP];refine ak.draw mixed rfl ?_;simp -dsimp -implicitDefEqProofs only [go_sem,gj];((with_reducible and_intros);all_goals try (omega));(refine an (UK) ?_;try simp -dsimp -implicitDefEqProofs only [go_sem, *]);refine ⟨by exact rfl,?_⟩;simp -dsimp -implicitDefEqProofs only [go_sem,DK,G8,bQ,cP];((with_reducible and_intros);all_goals try first|(refine ⟨?_,?_⟩<;>omega)|exact rfl)
       have hm1:=UI j k1 hf;have e3:decide (((1:Nat):Int)<1)=false:=rfl;simp -dsimp -implicitDefEqProofs only [pz,bC,bD,bx,↓reduceIte,aT];simp -dsimp -implicitDefEqProofs only [go_sem,lj,e3,hm1,TN,DL,G9,bQ,bW,cP,cK,Nat.zero_add];(all_goals try ((refine ⟨?_,?_⟩<;>omega)))
     simp -dsimp -implicitDefEqProofs only [pz,bC,bD,bx,↓reduceIte,aT];simp -dsimp -implicitDefEqProofs only [go_sem,aC,TN];(all_goals try ((refine ⟨?_,?_⟩<;>omega)))
   rw [Option.some_or];simp -dsimp -implicitDefEqProofs only [pz,bC,bD,bx,↓reduceIte,aT];simp -dsimp -implicitDefEqProofs only [go_sem,Ye,DL,G9,bQ,bW,cP,cK,Nat.zero_add];refine ak.up [1,2,3,9,11] [41,45,57,58,66,67] [] 0 (fun _=>True) (fun j=>[(12,eI j),(10,.ref 29 0 0 1)]) (fun _=>[]) trivial ?_ rfl (fun j hj _=>absurd hj (fu _)) (fun _=> ?_)
   . simp -dsimp -implicitDefEqProofs only [go_sem]
   have e3:decide (((1:Nat):Int)<1)=false:=rfl;cases hb0:decide ((0:Int)<(gs.length:Int)) with
   |true=>
    simp -dsimp -implicitDefEqProofs only [pz,bC,bD,bx,↓reduceIte,aT];simp -dsimp -implicitDefEqProofs only [go_sem,hb0,e3,TN,DL,G9,bQ,bW,cP,cK,Nat.zero_add];(all_goals try ((refine ⟨?_,?_⟩<;>omega)))
   |false=>
    simp -dsimp -implicitDefEqProofs only [pz,bC,bD,bx,↓reduceIte,aT];simp -dsimp -implicitDefEqProofs only [go_sem,hb0,TN,DL,G9,bQ,bW,cP,cK,Nat.zero_add];(all_goals try ((refine ⟨?_,?_⟩<;>omega)))
 have e0:decide (((r0.length-r0.length:Nat):Int)>0)=false:=by rw [Nat.sub_self];rfl
 generalize Nd ls gs r0.length r0.length=o at*;simp -dsimp -implicitDefEqProofs only [pz,bC,bD,bx,↓reduceIte,aT];simp -dsimp -implicitDefEqProofs only [go_sem,e0]
theorem QG (ks:lL) (h:ks.length<=1048576):nZ pG 272 [aR ks] ⟨1,false⟩ (ks.map aM):=by
 refine nZ.dM 8 [.tmp 2] func272 (hv:= ?_);simp -dsimp -implicitDefEqProofs only [go_sem];intro c hc;rcases c with _|_
 . rcases ks with _|⟨k,ks⟩
   . simp -dsimp -implicitDefEqProofs only [go_sem,cP,bQ];exact .inr ⟨5,1,rfl,.inr ⟨rfl,rfl⟩⟩
   simp -dsimp -implicitDefEqProofs only [go_sem,cK,bW];exact ⟨by simp at h;omega,.inr ⟨5,1,by simp,.inl rfl⟩⟩
 have e:=hc rfl;simp -dsimp -implicitDefEqProofs only [go_sem,e];exact .inl ⟨rfl,rfl⟩
theorem QH (xs:lI) (x:Int):has xs x=true↔x∈xs:=by
 unfold has;rw [Bool.not_eq_true',List.all_eq_false];constructor
 . rintro ⟨y,hy,h⟩;have:y=x:=by simpa using h
   exact this▸hy
 intro h;exact ⟨x,h,by simp⟩
def nQ (l:lL) (key c:lI):Bool:=(cf c.length).all fun i=>(c.getD i 0==key.getD i 0)||has (l.getD i []) (c.getD i 0)
theorem Cf (m:aL) (K:lL) {n i:Nat} (h:i<n):(km m K n).getD i []=jH m K i:=by rw [uq7];simp [km,h]
theorem Gy (m:aL) (K:lL) (i:Nat) (d:Int) (h:0<=d/\d<m.aq):has (jH m K i) d=K.any fun k=>k.getD i 0==d:=by
 obtain ⟨j,rfl⟩:∃j:Nat,d=(j:Int):=⟨d.toNat,by omega⟩;have hj:j<m.aq.toNat:=by omega
 have e:has (jH m K i) (j:Int)=true↔j5 K i j=true:=by
  rw [QH];constructor
  . intro hm;obtain ⟨q,_,e,hp⟩:=sw hm;have:j=q:=by omega
    subst this;exact hp
  intro hp;exact qP hj hp
 exact Bool.eq_iff_iff.2 e
theorem Je (m:aL) (K:lL) (key c:lI) (n:Nat) (hc:c.length<=n) (hd:∀y∈c,0<=y/\y<m.aq):dX (km m (K++[key]) n) c=nQ (km m K n) key c:=by
 unfold dX nQ;refine Bool.eq_iff_iff.2 ?_;simp only [uq4,List.mem_range];refine forall_congr' fun i=>imp_congr_right fun hi=> ?_;have hci:c.getD i 0∈c:=by rw [uq7,uq8 hi];exact uq9 hi
 have hb:=hd _ hci;rw [Cf m _ (by omega),Cf m _ (by omega),Gy m _ i _ hb,Gy m _ i _ hb,List.any_append];have e:([key].any fun k=>k.getD i 0==c.getD i 0)=(c.getD i 0==key.getD i 0):=by simp only [List.any_cons,List.any_nil,Bool.or_false];exact Bool.eq_iff_iff.2 ⟨fun h=>by simp at h ⊢;exact h.symm,fun h=>by simp at h ⊢;exact h.symm⟩
 rw [e,Bool.or_comm]
theorem Gz (t ae:lL) (key:lI) (k:Nat):∀i,i<=ae.length->jv t (ae++[key]) k i=jv t ae k i
 |0,_=>rfl
 |i+1,h=>by
  rw [gJ,gJ,Gz t ae key k i (by omega)];have:(ae++[key]).getD i []=ae.getD i []:=by rw [uq7,List.getElem?_append_left (by omega),←uq7]
  rw [this]
theorem Cg (m:aL) (t ae:lL) (key:lI) (k:Nat):bT m t (ae++[key]) k=if ((t.getD ae.length []).getD k 0==1)=true then km m (jv t ae k ae.length++[key]) m.ah.toNat else bT m t ae k:=by
 unfold bT;rw [dD,List.length_singleton,gJ,Gz t ae key k _ (gB _)];have:(ae++[key]).getD ae.length []=key:=by simp [uq7]
 rw [this];split<;>rfl
def y3 (m:aL) (t ae:lL) (i k:Nat):Bool:=((t.getD i []).getD k 0==0)&&dX (bT m t ae k) (ae.getD i [])
theorem GA (m:aL) (t ae:lL) (i:Nat):∀n,od m t ae i n=[]↔∀k,k<n->y3 m t ae i k=false
 |0=>⟨fun _ k h=>absurd h (fu _),fun _=>rfl⟩
 |n+1=>by
  rw [pM];have ih:=GA m t ae i n;constructor
  . intro h k hk;split at h
    . simp at h
    rename_i hb;by_cases e:k=n
    . subst e;simpa [y3] using hb
    exact ih.1 h k (by omega)
  intro h;have hb:y3 m t ae i n=false:=h n (by omega);unfold y3 at hb;rw [hb,if_neg (by simp)];exact ih.2 fun k hk=>h k (by omega)
theorem Ch (m:aL) (t ae:lL):∀n,jU m t ae n=[]↔∀i,i<n->∀k,k<(t.getD 0 []).length->y3 m t ae i k=false
 |0=>⟨fun _ k h=>absurd h (fu _),fun _=>rfl⟩
 |n+1=>by
  rw [nH,List.append_eq_nil_iff,Ch m t ae n,GA];constructor
  . rintro ⟨h1,h2⟩ i hi k hk;by_cases e:i=n
    . subst e;exact h2 k hk
    exact h1 i (by omega) k hk
  intro h;exact ⟨fun i hi=>h i (by omega),h n (by omega)⟩
theorem GB (m:aL) (t ae:lL):lT m t ae=true↔∀i,i<ae.length->∀k,k<(t.getD 0 []).length->y3 m t ae i k=false:=by
 rw [←Ch];unfold lT gS;rw [beq_iff_eq];constructor
 . intro h;exact List.eq_nil_of_length_eq_zero (by omega)
 intro h;rw [h];rfl
def QI (m:aL) (t ae:lL) (key:lI) (k:Nat):Bool:=((t.getD ae.length []).getD k 0==0)&&dX (bT m t ae k) key
def QJ (m:aL) (t ae:lL) (key:lI) (k i:Nat):Bool:=(((t.getD ae.length []).getD k 0==1)&&((t.getD i []).getD k 0==0))&&nQ (bT m t ae k) key (ae.getD i [])
def nR (m:aL) (t ae:lL) (key:lI):Bool:=(cf (t.getD 0 []).length).all fun k=> !QI m t ae key k&&(cf ae.length).all fun i=> !QJ m t ae key k i
theorem y4 (m:aL) (t ae:lL) (key:lI) (ho:lT m t ae=true) (hc:∀x∈ae,(x.length:Int)=m.ah/\∀y∈x,0<=y/\y<m.aq):lT m t (ae++[key])=nR m t ae key:=by
 have ho:=(GB m t ae).1 ho;refine Bool.eq_iff_iff.2 ?_;rw [GB];unfold nR;simp only [uq4,List.mem_range,uq0,Bool.not_eq_true'];have hlen:(ae++[key]).length=ae.length+1:=by simp
 have kh:(ae++[key]).getD ae.length []=key:=by simp [uq7]
 have Ny:∀i,i<ae.length->(ae++[key]).getD i []=ae.getD i []:=fun i hi=>by rw [uq7,List.getElem?_append_left hi,←uq7]
 have e1:∀k,y3 m t (ae++[key]) ae.length k=QI m t ae key k:=by
  intro k;unfold y3 QI;rw [kh,Cg];by_cases hz:((t.getD ae.length []).getD k 0==0)=true
  . have:((t.getD ae.length []).getD k 0==1)=false:=by
     have:=beq_iff_eq.1 hz;rw [this];rfl
    rw [this,if_neg (by simp)]
  have hz:((t.getD ae.length []).getD k 0==0)=false:=by simpa using hz
  rw [hz,uq1,uq1]
 have e2:∀i,i<ae.length->∀k,k<(t.getD 0 []).length->y3 m t (ae++[key]) i k=QJ m t ae key k i:=by
  intro i hi k hk;have hold:=ho i hi k hk;unfold y3 at hold;unfold y3 QJ;rw [Ny i hi,Cg];have hci:ae.getD i []∈ae:=by rw [uq7,uq8 hi];exact uq9 hi
  obtain ⟨hl,hd⟩:=hc _ hci;by_cases h1:((t.getD ae.length []).getD k 0==1)=true
  . rw [if_pos h1,h1,uq3,Je m _ key _ _ (by omega) hd];rfl
  have h1':((t.getD ae.length []).getD k 0==1)=false:=by simpa using h1
  rw [if_neg h1,h1',uq1,uq1];exact hold
 constructor
 . intro h k hk;refine ⟨by rw [←e1];exact h _ (by omega) k hk,fun i hi=>by rw [←e2 i hi k hk];exact h i (by omega) k hk⟩
 intro h i hi k hk;by_cases e:i=ae.length
 . subst e;rw [e1];exact (h k hk).1
 rw [e2 i (by omega) k hk];exact (h k hk).2 i (by omega)
theorem fG (t:lL) (h:t.length<=1000) (h2:∀x∈t,0<x.length/\x.length<=1048576):Fn pG 115 [aR t] true (· =aR t):=by
 refine Fn.av 20 [.tmp 2] func115 (hv:= ?_);simp -dsimp -implicitDefEqProofs only [go_sem];refine ak.ZI [7,8] [15,16,17] [6] t.length (fun _=>True) (fun i=>[(9,eI i),(3,.ref 6 0 0 i)]) (fun i=>[(6,.row 0 ⟨1,false⟩ true ((t.take i).map aM))]) trivial ?_ rfl (fun i hi _=> ?_) (fun _=> ?_)
 . refine .here ?_;simp -dsimp -implicitDefEqProofs only [go_sem]
 . have gi:=get_some hi;have li:=aG hi;have hx:=h2 _ (uq9 hi);have ho:=yp t[i] hx.2;have e2:(t.take (i+1)).map aM=(t.take i).map aM++[aM t[i]]:=by rw [aP hi,bR];rfl
   have hln:(t.take i).length=i:=by simp;omega
   rw [e2];clear e2;generalize t.take i=F at*;generalize t[i]=x at*;have tF:(F.map aM).take i=F.map aM:=bg (by simp;omega);simp -dsimp -implicitDefEqProofs only [pz,bC,bD,bx,↓reduceIte,aT];refine ak.VJ rfl ?_;simp -dsimp -implicitDefEqProofs only [go_sem,li];refine ak.VJ rfl ?_;simp -dsimp -implicitDefEqProofs only [go_sem];refine ak.Yv ?_;refine ak.VK ?_;refine ak.VJ rfl ?_;simp -dsimp -implicitDefEqProofs only [go_sem,gi];((with_reducible and_intros);all_goals try (omega));refine ak.cut 3 rfl ?_;simp -dsimp -implicitDefEqProofs only [bj,fW,uq5,uq6];simp -dsimp -implicitDefEqProofs only [go_sem];refine ab ho ?_;simp -dsimp -implicitDefEqProofs only [go_sem];refine nw.known 15 16000 0 x.length ⟨1,false⟩ _ rfl (by decide) rfl (by simp) hx.1 (by decide) fun u=> ?_;simp -dsimp -implicitDefEqProofs only [go_sem,tF];((with_reducible and_intros);all_goals try (omega));refine ak.vc rfl ?_;simp -dsimp -implicitDefEqProofs only [go_sem];((with_reducible and_intros);all_goals try ((refine ⟨?_,?_⟩<;>omega)));refine yd.back 6 1 i 16000 0 _ _ _ u (by decide) rfl (by simp [hln]) rfl (.here ?_);rw [show (F.map aM++[AV.val u]).set i (.arr ⟨1,false⟩ (x.map eI))=F.map aM++[aM x] by rw [List.set_append_right _ _ (by simp;omega)];simp [hln]];simp -dsimp -implicitDefEqProofs only [go_sem];(all_goals try (exact rfl))
 refine ak.vc rfl ?_;rw [aY];simp -dsimp -implicitDefEqProofs only [pz,bC,bD,bx,↓reduceIte,aT];simp -dsimp -implicitDefEqProofs only [go_sem,aC];all_goals first|(simp;done)|skip
theorem GC {t ae:lL} {k r:Nat} (h1:((t.getD r []).getD k 0==1)=true):∀n,r<n->ae.getD r []∈jv t ae k n
 |0,h=>by omega
 |n+1,h=>by
  rw [gJ];by_cases e:r=n
  . subst e;rw [if_pos h1];simp
  have:=GC h1 (ae:=ae) n (by omega);split
  . exact List.mem_append_left _ this
  exact this
theorem Nf {xs:lI} {n:Int} (hp:xs.Pairwise (· < ·)) (hb:∀x∈xs,0<=x/\x<n):lP xs n=true:=by
 unfold lP;rw [uq4];intro i hi;have hi:=List.mem_range.1 hi;have h1:=hb _ (uq9 hi);have e:xs.getD i 0=xs[i]:=by simp [uq7,hi]
 simp only [eU,uq0,Bool.or_eq_true,decide_eq_true_eq,beq_iff_eq];rw [e];refine ⟨h1,?_⟩;by_cases h0:i=0
 . exact .inl h0
 have hi':i-1<xs.length:=by omega
 have e':xs.getD (i-1) 0=xs[i-1]:=by simp [uq7,hi']
 rw [e'];exact .inr (List.pairwise_iff_getElem.1 hp (i-1) i hi' hi (by omega))
theorem y5 {m:aL} {t ae:lL} (hs:eV m t=true) (hc:dY m t ae=true) {k:Nat} (hk:k<(t.getD 0 []).length):fv m (bT m t ae k)=true:=by
 have ky:=lR hs;have ⟨⟨n1,n2⟩,n3,n4⟩:=aO ky;obtain ⟨c1,c2⟩:=dJ hc;simp only [eV,uq0] at hs;have hd:=hs.2;unfold iD at hd;rw [uq4] at hd;have hd:=hd k (List.mem_range.2 hk);unfold eH at hd;obtain ⟨row,Ha,hr1⟩:=List.any_eq_true.1 hd;obtain ⟨r,hr,rfl⟩:=List.getElem_of_mem Ha;have hrt:t.getD r []=t[r]:=by simp [uq7,hr]
 have hin:=GC (ae:=ae) (t:=t) (k:=k) (r:=r) (by rw [hrt];exact hr1) ae.length (by omega);have hrc:r<ae.length:=by omega
 have hcr:ae.getD r []=ae[r]:=by simp [uq7,hrc]
 rw [hcr] at hin;obtain ⟨k1,k2⟩:=gw (c2 _ (uq9 hrc));simp only [fv,uq0,beq_iff_eq,uq4];refine ⟨by rw [kW];omega,fun x hx=> ?_⟩;simp only [bT,km,List.mem_map,List.mem_range] at hx;obtain ⟨i,hi,rfl⟩:=hx;simp only [cT,uq0,decide_eq_true_eq];have hil:i<ae[r].length:=by omega
 have hb:=k2 _ (uq9 hil);constructor
 . have hm:=qP (p:=j5 (jv t ae k ae.length) i) (n:=m.aq.toNat) (j:=ae[r][i].toNat) (by omega) (by
    unfold j5;rw [List.any_eq_true];refine ⟨ae[r],hin,?_⟩;rw [beq_iff_eq,show ae[r].getD i 0=ae[r][i] by simp [uq7,hil]]
    omega)
   intro h0;have:jH m (jv t ae k ae.length) i=[]:=List.eq_nil_of_length_eq_zero h0;unfold jH at this;rw [this] at hm;cases hm
 refine Nf (sC _ _) fun x hx=> ?_;obtain ⟨j,hj,rfl,_⟩:=sw hx;omega
def j9 (p:lI):lU:=Lib.join (p.map itoa) [43]
def pZ (ps:lL):lU:=Lib.join (ps.map j9) [32]
theorem Ng {p:lI} {k:Nat} (hk:k<p.length):j9 (p.take (k+1))=if k=0 then itoa p[k] else j9 (p.take k)++([43]++itoa p[k]):=by
 rw [j9,aP hk,bR,hZ,qV];by_cases hz:k=0
 . subst hz;simp
 rw [if_neg hz,if_neg]
 . rfl
 intro e2;have:=congrArg List.length e2;rw [cr,List.length_take,bQ] at this;omega
theorem Nh {ps:lL} {i:Nat} (hi:i<ps.length):pZ (ps.take (i+1))=if i=0 then j9 ps[i] else pZ (ps.take i)++([32]++j9 ps[i]):=by
 rw [pZ,aP hi,bR,hZ,qV];by_cases hz:i=0
 . subst hz;simp
 rw [if_neg hz,if_neg]
 . rfl
 intro e2;have:=congrArg List.length e2;rw [cr,List.length_take,bQ] at this;omega
def GD (ps:lL):Prop:=ps.length<=8/\∀p∈ps,p.length<=16/\∀x∈p,0<=x/\x<=9
theorem GF {p:lI} (h:p.length<=16) (hx:∀x∈p,0<=x/\x<=9):(j9 p).length<=352:=by
 have h1:=tN (p.map itoa) [43] 21 (by
  intro y hy;obtain ⟨x,hxm,rfl⟩:=List.mem_map.1 hy
  exact cU (by have:=hx x hxm;unfold kx;omega))
 rw [cr] at h1;simp only [List.length_singleton] at h1;unfold j9;omega
theorem GG {ps:lL} (h:GD ps):(pZ ps).length<=2824:=by
 have h1:=tN (ps.map j9) [32] 352 (by
  intro y hy;obtain ⟨p,hp,rfl⟩:=List.mem_map.1 hy
  exact GF (h.2 p hp).1 (h.2 p hp).2)
 rw [cr] at h1;simp only [List.length_singleton] at h1;have:=h.1;unfold pZ;omega
theorem Jf {ps:lL} (h:GD ps) (i:Nat):GD (ps.take i):=⟨by have:=h.1;simp;omega,fun p hp=>h.2 p (jd hp)⟩
theorem Kx {m:aL} {l:lL} (hm:a6 m=true) (hl:fv m l=true) (h8:∀x∈l,x.length<=8):GD (pins m l):=by have hn:=aO hm;simp only [fv,uq0,beq_iff_eq,uq4] at hl;refine ⟨by rw [pins,cr];omega,fun p hp=> ?_⟩;obtain ⟨s,hs,rfl⟩:=List.mem_map.1 hp;obtain ⟨h1,h2⟩:=IP (hl.2 s hs);have:=h8 s hs;exact ⟨by rw [Tp h1];omega,fun x hx=>by have:=h2 x hx;omega⟩
set_option maxHeartbeats 4000000 in
theorem GH (m:aL) (l:lL) (hm:a6 m=true) (hl:fv m l=true) (h8:∀x∈l,x.length<=8):Fn pG 119 [kV m,sy l] true (· = .aZ [eS (pZ (pins m l)),eI 0]):=by
 refine Fn.av 34 [.tmp 4,.tmp 5] func119 (hv:= ?_);have hll:l.length<=8:=by have hn:=aO hm;simp only [fv,uq0,beq_iff_eq] at hl;omega
 have hc:=FY m [l] (by simp) (fun x hx=>by simp only [List.mem_singleton] at hx;subst hx;exact ⟨by omega,fun y hy=>by have:=h8 y hy;omega⟩);rw [FX,Dd,hm,hl] at hc;have hc:Fn pG 163 [kV m,.arr ⟨1,true⟩ [sy l]] true (· =eI 0):=hc;have hp:=Qe m l hm hl (fun x hx=>by have:=h8 x hx;omega);have hok:=Kx hm hl h8;have hj:=fun (i:Nat) (hi:i<(pins m l).length)=>tO [43] (by simp) (pins m l)[i] (by have:=(hok.2 _ (uq9 hi)).1;omega) (fun x hx=>by have:=(hok.2 _ (uq9 hi)).2 x hx;unfold kx;omega);generalize pins m l=ps at*;have hps:=hok.1;have e:((0:Int) != 0)=false:=rfl;simp -dsimp -implicitDefEqProofs only [go_sem];refine ab hc ?_;simp -dsimp -implicitDefEqProofs only [go_sem,e];refine ax hp (by simp [ay,ao,au,aH]) ?_;simp -dsimp -implicitDefEqProofs only [go_sem];refine ak.up [20,21] [28,29,30] [17] ps.length (fun _=>True) (fun i=>[(7,.ref 17 0 0 i),(22,eI i)]) (fun i=>[(17,.row 0 ⟨1,false⟩ true (((ps.take i).map j9).map eS))]) trivial ?_ rfl (fun i hi _=> ?_) (fun _=> ?_)
 . simp -dsimp -implicitDefEqProofs only [go_sem]
 . have gi:=get_some hi;have hji:=hj i hi;have htk:(ps.take (i+1)).map j9=(ps.take i).map j9++[j9 ps[i]]:=by rw [aP hi,bR];rfl
   have hln:((ps.take i).map j9).length=i:=by simp;omega
   rw [htk,bR,hZ];clear htk hj;generalize (ps.take i).map j9=K at*;rw [show Lib.join (ps[i].map itoa) [43]=j9 ps[i] from rfl] at hji;generalize ps[i]=p at*;have tK:cL i (K.map eS)=K.map eS:=bg (by simp [hln]);simp -dsimp -implicitDefEqProofs only [pz,bC,bD,bx,↓reduceIte,aT];simp -dsimp -implicitDefEqProofs only [go_sem,aG hi,gi];((with_reducible and_intros);all_goals try (omega));refine ab hji ?_;simp -dsimp -implicitDefEqProofs only [go_sem,tK];((with_reducible and_intros);all_goals try first|omega|(refine ⟨?_,?_⟩<;>omega)|exact rfl)
 have hpl:=GG hok;rw [aY];have e2:cL ps.length (bk eS (bk j9 ps))=bk eS (bk j9 ps):=bg (by simp);have hJ:=P9 (ps.map j9) [32] (by simp;omega) (by unfold pZ at hpl;omega);simp -dsimp -implicitDefEqProofs only [pz,bC,bD,bx,↓reduceIte,aT];simp -dsimp -implicitDefEqProofs only [go_sem,aC,e2];refine ab hJ ?_;simp -dsimp -implicitDefEqProofs only [go_sem];all_goals (first|exact rfl|skip)
set_option maxHeartbeats 4000000 in
theorem Ni (ps:lL) (h:GD ps):Fn pG 147 [aR ps] true (· =eS (pZ ps)):=by
 refine Fn.av 40 [.tmp 2] func147 (hv:= ?_);have hps:=h.1;simp -dsimp -implicitDefEqProofs only [go_sem];refine ak.up [0] [8,21,37] [] ps.length (fun _=>True) (fun i=>[(3,eS (pZ (ps.take i))),(4,eI i)]) (fun _=>[]) trivial ?_ rfl (fun i hi _=> ?_) (fun _=> ?_)
 . simp -dsimp -implicitDefEqProofs only [go_sem];all_goals first|rfl|skip
 . have gi:=get_some hi;have hsl:=GG (Jf h i);obtain ⟨hp1,hp2⟩:=h.2 _ (uq9 hi);obtain ⟨base,qu,hbl⟩:∃base:lU,base=(if i=0 then [] else pZ (ps.take i)++[32])/\base.length<=2825:=⟨_,rfl,by split<;>simp;omega⟩;have zM:pZ (ps.take (i+1))=base++j9 ps[i]:=by
    rw [Nh hi,qu];split
    . rfl
    rw [List.append_assoc]
   rw [zM];clear zM;have inner:∀(p:lI),p.length<=16->(∀x∈p,0<=x/\x<=9)->∀k,k<=p.length->(j9 (p.take k)).length<=352:=fun p q1 q2 k hk=>GF (by simp;omega) fun x hx=>q2 x (jd hx);have hin:=inner _ hp1 hp2;clear inner;obtain ⟨o0,ho0⟩:∃o0:lU,pZ (ps.take i)=o0:=⟨_,rfl⟩;rw [ho0] at qu hsl ⊢;generalize ps[i]=p at*;simp -dsimp -implicitDefEqProofs only [pz,↓reduceIte,aT];rcases Nat.eq_zero_or_pos i with h0|h0
   case' inl=>
    have d0:decide ((i:Int)>0)=false:=dF (by omega);have hb0:o0=base:=by rw [qu,if_pos h0,←ho0,h0];rfl
    rw [hb0];simp -dsimp -implicitDefEqProofs only [go_sem,aG hi,d0]
   case' inr=>
    have d0:decide ((i:Int)>0)=true:=dT (by omega);have hb0:o0++[32]=base:=by rw [qu,if_neg (by omega)]
    simp -dsimp -implicitDefEqProofs only [go_sem,aG hi,d0,hb0]
   all_goals
    ((with_reducible and_intros);all_goals try (omega));refine ak.up [0,4] [21,37] [] p.length (fun _=>True) (fun k=>[(3,eS (base++j9 (p.take k))),(5,eI k)]) (fun _=>[]) trivial ?_ rfl (fun k hk _=> ?_) (fun _=> ?_)
    . simp -dsimp -implicitDefEqProofs only [go_sem];all_goals first|(simp [j9,join_nil];done)|skip
    . have gk:=get_some hk;have hd:=fm p[k] (by have:=hp2 _ (uq9 hk);omega);have hil:=cU (v:=p[k]) (by have:=hp2 _ (uq9 hk);unfold kx;omega);have hk1:=hin k (by omega);rw [Ng hk];rcases Nat.eq_zero_or_pos k with g0|g0
      . have q0:decide ((k:Int)>0)=false:=dF (by omega);have ez:j9 (p.take k)=[]:=by rw [g0];rfl
        rw [if_pos g0,ez,List.append_nil];generalize p[k]=x at*;simp -dsimp -implicitDefEqProofs only [pz,↓reduceIte,aT];simp -dsimp -implicitDefEqProofs only [go_sem,aG hk,gi,gk,q0];((with_reducible and_intros);all_goals try (omega));refine ab hd ?_;simp -dsimp -implicitDefEqProofs only [go_sem];((with_reducible and_intros);all_goals try first|omega|(refine ⟨?_,?_⟩<;>omega)|exact rfl)
      have q0:decide ((k:Int)>0)=true:=dT (by omega);rw [if_neg (by omega)];generalize j9 (p.take k)=J at*;generalize p[k]=x at*;simp -dsimp -implicitDefEqProofs only [pz,↓reduceIte,aT];simp -dsimp -implicitDefEqProofs only [go_sem,aG hk,gi,gk,q0];((with_reducible and_intros);all_goals try (omega));refine ab hd ?_;simp -dsimp -implicitDefEqProofs only [go_sem];((with_reducible and_intros);all_goals try first|omega|(refine ⟨?_,?_⟩<;>omega)|exact rfl);all_goals first|(simp;done)|(first|omega|(refine ⟨?_,?_⟩<;>omega)|exact rfl|(simp;done)|skip)
    simp -dsimp -implicitDefEqProofs only [pz,↓reduceIte,aT];simp -dsimp -implicitDefEqProofs only [go_sem,gi,aC,aY];((with_reducible and_intros);all_goals try first|omega|(refine ⟨?_,?_⟩<;>omega)|exact rfl)
 simp -dsimp -implicitDefEqProofs only [pz,↓reduceIte,aT];simp -dsimp -implicitDefEqProofs only [go_sem,aC,aY]
theorem GI (m:aL) (l:lL) (hm:a6 m=true) (hl:fv m l=true) (h8:∀x∈l,x.length<=8):Fn pG 102 [kV m,sy l] true (· = .aZ [eS (pZ (pins m l)),eI 0]):=by
 refine Fn.av 14 [.tmp 4,.tmp 5] func102 (hv:= ?_);have hll:l.length<=8:=by have hn:=aO hm;simp only [fv,uq0,beq_iff_eq] at hl;omega
 have hc:=Mz m l (by omega) (fun y hy=>by have:=h8 y hy;omega);rw [Dd,hm,hl] at hc;have hp:=MO m l hm hl (fun x hx=>by have:=h8 x hx;omega);have ht:=Ni (pins m l) (Kx hm hl h8);generalize pins m l=ps at*;simp -dsimp -implicitDefEqProofs only [go_sem];refine ab hc ?_;simp -dsimp -implicitDefEqProofs only [go_sem];refine ax hp (by simp [ay,ao,au,aH]) ?_;simp -dsimp -implicitDefEqProofs only [go_sem];refine ab ht ?_;simp -dsimp -implicitDefEqProofs only [go_sem]
theorem Nj (m m2:Mem) (x:AV) (sh:Sh) (xs:lA) (i j:Nat):vE m m2 x (.bu sh xs i j)=jN m m2 x (.bu sh xs i j):=by cases x<;>rfl
theorem Jg (m m2:Mem) (sh:Sh) (xs ys:lA) (i j:Nat):jN m m2 (.bu sh xs i j) (.bu sh ys i j)=(xs=ys):=by simp [jN]
attribute [go_sem ↓] Nj Jg
theorem vv (l:lL) (key c:lI) (h0:c.length<=l.length) (hk:c.length<=key.length) (h1:l.length<=1048576) (h2:∀x∈l,x.length<=1048576):Fn pG 281 [sy l,aM key,aM c] true (· =eB (nQ l key c)):=by
 refine Fn.av 33 [.tmp 6] func281 (hv:= ?_);simp -dsimp -implicitDefEqProofs only [go_sem];refine ak.up [1,3,9,10] [29] [] c.length (fun i=>((cf i).all fun i=>(c.getD i 0==key.getD i 0)||has (l.getD i []) (c.getD i 0))=true) (fun i=>[(11,eI i)]) (fun _=>[]) rfl ?_ rfl (fun i hi hI=> ?_) (fun hI=> ?_)
 . simp -dsimp -implicitDefEqProofs only [go_sem]
 . have gi:=get_some (show i<l.length by omega);have gk:=get_some (show i<key.length by omega);have gc:=get_some hi;have li:=aG hi;have hp:((c.getD i 0==key.getD i 0)||has (l.getD i []) (c.getD i 0))=((c[i]==key[i])||has l[i] c[i]):=by simp [uq7,hi,show i<l.length by omega,show i<key.length by omega]
   have hq:=qK l[i] c[i] (h2 _ (uq9 _));have no:((c[i]==key[i])||has l[i] c[i])=false->nQ l key c=false:=fun h=>b9 hi (by rw [hp];exact h);have yes:((c[i]==key[i])||has l[i] c[i])=true->((cf (i+1)).all fun i=>(c.getD i 0==key.getD i 0)||has (l.getD i []) (c.getD i 0))=true:=fun h=>by rw [bn,hI,hp,h];rfl
   clear hp hI;generalize l[i]=x at*;generalize c[i]=z at*;generalize key[i]=y at*;rcases he:(z==y) with _|_
   . have e1:(z != y)=true:=by simp only [bne,he];rfl
     rw [he,Bool.false_or] at no yes;simp -dsimp -implicitDefEqProofs only [pz,bC,bD,bx,↓reduceIte,aT];simp -dsimp -implicitDefEqProofs only [go_sem,gi,gc,gk,li,e1];((with_reducible and_intros);all_goals try (omega));refine ab hq ?_;rcases hb:has x z with _|_
     . rw [no hb];simp -dsimp -implicitDefEqProofs only [go_sem]
     simp -dsimp -implicitDefEqProofs only [go_sem];refine ⟨⟨by omega,by omega⟩,?_,rfl⟩;rw [←List.range_succ];exact yes hb
   have e1:(z != y)=false:=by simp only [bne,he];rfl
   rw [he,Bool.true_or] at yes;simp -dsimp -implicitDefEqProofs only [pz,bC,bD,bx,↓reduceIte,aT];simp -dsimp -implicitDefEqProofs only [go_sem,gc,gk,li,e1];((with_reducible and_intros);all_goals try first|omega|(refine ⟨?_,?_⟩<;>omega)|exact rfl);rw [←List.range_succ];exact yes rfl
 simp -dsimp -implicitDefEqProofs only [pz,bC,bD,bx,↓reduceIte,aT];simp -dsimp -implicitDefEqProofs only [go_sem,aC];rw [show nQ l key c=true from hI]
def oh (m:aL) (t ae:lL):lA:=[.bu ⟨1,false⟩ [pX (aA m t ae (t.getD 0 []).length)] 0 0,.bu ⟨1,false⟩ [aM (t.getD ae.length [])] 0 0,.bu ⟨1,false⟩ [aR ae] 0 0,.bu ⟨6,true⟩ [jR m t] 0 0]
theorem QK (m:aL) (t ae:lL) (key:lI) (hm:a6 m=true) (h0:t.length<=1000) (h1:ae.length<t.length) (hk:∀i (hi:i<t.length),t[i].length=(t.getD 0 []).length) (hd:(t.getD 0 []).length<=1000) (hc:∀x∈ae,(x.length:Int)=m.ah)
 (WA:(key.length:Int)=m.ah):Fn pG 280 (aM key::oh m t ae) true (· =eB (nR m t ae key)):=by
 have ⟨⟨n1,n2⟩,n3,n4⟩:=aO hm;unfold oh;refine Fn.av 59 [.tmp 6] func280 (hv:= ?_);have hll:=dO m t ae (t.getD 0 []).length;have Ha:(t.getD ae.length []).length=(t.getD 0 []).length:=by rw [uq7,uq8 h1];exact hk _ h1
 unfold nR;have hgl:=fun k (h:k<(t.getD 0 []).length)=>jT m t ae h;have hL:=fun k=>kW m t ae k;have hLs:=fun k=>iF m t ae k;have hb1:∀k,QI m t ae key k=(((t.getD ae.length []).getD k 0==0)&&dX (bT m t ae k) key):=fun k=>rfl;have hb2:∀k i,QJ m t ae key k i=((((t.getD ae.length []).getD k 0==1)&&((t.getD i []).getD k 0==0))&&nQ (bT m t ae k) key (ae.getD i [])):=fun k i=>rfl;generalize QI m t ae key=b1 at*;generalize QJ m t ae key=b2 at*;generalize bT m t ae=LA at*;generalize aA m t ae (t.getD 0 []).length=ls at*;generalize t.getD ae.length []=row at*;generalize hdo:(t.getD 0 []).length=D at*;simp -dsimp -implicitDefEqProofs only [go_sem];refine ak.up [0,2,3,4,11,12] [8,26,29,55] [] D (fun k=>((cf k).all fun k=> !b1 k&&(cf ae.length).all fun i=> !b2 k i)=true) (fun k=>[(13,eI k)]) (fun _=>[]) rfl ?_ rfl (fun k hkD hI=> ?_) (fun hI=> ?_)
 . simp -dsimp -implicitDefEqProofs only [go_sem]
 . have hkr:k<row.length:=by omega
   have gl:=hgl k hkD;have gr:=get_some hkr;have lk:decide ((k:Int)<(ls.length:Int))=true:=dT (by omega);have hq:=Df (LA k) key (by have:=hL k;omega) (by have:=hL k;omega) (fun x hx=>by have:=hLs k x hx;omega);have hL1:=hL k;have Yf:=hLs k;have e1:=hb1 k;have e2:=hb2 k;have no:(!b1 k&&(cf ae.length).all fun i=> !b2 k i)=false->((cf D).all fun k=> !b1 k&&(cf ae.length).all fun i=> !b2 k i)=false:=fun h=>b9 hkD h;have yes:(!b1 k&&(cf ae.length).all fun i=> !b2 k i)=true->((cf (k+1)).all fun k=> !b1 k&&(cf ae.length).all fun i=> !b2 k i)=true:=fun h=>by rw [bn,hI,h];rfl
   rw [show row.getD k 0=row[k] by simp [uq7,hkr]] at e1 e2;clear hI hb1 hb2 hgl hL hLs;generalize LA k=L at*;generalize row[k]=z at*;generalize ((cf D).all fun k=> !b1 k&&(cf ae.length).all fun i=> !b2 k i)=R at*;generalize ((cf (k+1)).all fun k=> !b1 k&&(cf ae.length).all fun i=> !b2 k i)=R1 at*;generalize b1 k=c1 at*;generalize b2 k=c2 at*;have inner:∀Q0:Prop,True:=fun _=>trivial;rcases hz0:(z==0) with _|_
   . rw [hz0,uq1] at e1;subst e1;simp -dsimp -implicitDefEqProofs only [pz,↓reduceIte,aT];simp -dsimp -implicitDefEqProofs only [go_sem,gl,gr,lk,hz0];((with_reducible and_intros);all_goals try (omega));refine ak.up [0,2,3,4,7,8,11,12,13,28,29] [55] [] ae.length (fun i=>((cf i).all fun i=> !c2 i)=true) (fun i=>[(30,eI i)]) (fun _=>[]) rfl ?_ rfl (fun i hi hJ=> ?_) (fun hJ=> ?_)
     . simp -dsimp -implicitDefEqProofs only [go_sem]
     . have hit:i<t.length:=by omega
       have hki:k<t[i].length:=by rw [hk i hit];exact hkD
       have git:=get_some hit;have gik:=get_some hki;have gci:=get_some hi;have lci:=aG hi;have e3:=e2 i;rw [show (t.getD i []).getD k 0=t[i][k] by simp [uq7,hit,hki],show ae.getD i []=ae[i] by simp [uq7,hi]] at e3;have hcl:=hc _ (uq9 hi);have hq2:=vv L key ae[i] (by omega) (by omega) (by omega) (fun x hx=>by have:=Yf x hx;omega);have yes2:c2 i=false->((cf (i+1)).all fun i=> !c2 i)=true:=fun h=>by rw [bn,hJ,h];rfl
       have no2:c2 i=true->R=false:=fun h=>no (by rw [Bool.not_false,uq3];exact b9 hi (by rw [h];rfl));generalize ((cf (i+1)).all fun i=> !c2 i)=R2 at*;generalize c2 i=c3 at*;clear hJ;generalize ae[i]=cc at*;generalize t[i]=ti at*;generalize ti[k]=y at*;rcases hz1:(z==1) with _|_
       . rw [hz1,uq1,uq1] at e3;simp -dsimp -implicitDefEqProofs only [pz,bC,bD,bx,↓reduceIte,aT];simp -dsimp -implicitDefEqProofs only [go_sem,gci,lci,gr,hz1];((with_reducible and_intros);all_goals try first|omega|(refine ⟨?_,?_⟩<;>omega)|exact rfl);all_goals first|exact yes2 e3|skip
       rw [hz1,uq3] at e3;rcases hy:(y==0) with _|_
       . rw [hy,uq1] at e3;simp -dsimp -implicitDefEqProofs only [pz,bC,bD,bx,↓reduceIte,aT];simp -dsimp -implicitDefEqProofs only [go_sem,gci,lci,gr,hz1,git,gik,hy];((with_reducible and_intros);all_goals try first|omega|(refine ⟨?_,?_⟩<;>omega)|exact rfl);all_goals first|exact yes2 e3|skip
       rw [hy,uq3] at e3;simp -dsimp -implicitDefEqProofs only [pz,bC,bD,bx,↓reduceIte,aT];simp -dsimp -implicitDefEqProofs only [go_sem,gci,lci,gr,hz1,git,gik,hy];((with_reducible and_intros);all_goals try (omega));refine ab hq2 ?_;rcases hw:nQ L key cc with _|_
       . rw [hw] at e3;simp -dsimp -implicitDefEqProofs only [go_sem];((with_reducible and_intros);all_goals try first|(refine ⟨?_,?_⟩<;>omega)|exact rfl);all_goals first|exact yes2 e3|skip
       rw [hw] at e3;rw [no2 e3];simp -dsimp -implicitDefEqProofs only [go_sem]
     simp -dsimp -implicitDefEqProofs only [pz,bC,bD,bx,↓reduceIte,aT];simp -dsimp -implicitDefEqProofs only [go_sem,aC];((with_reducible and_intros);all_goals try first|(refine ⟨?_,?_⟩<;>omega)|exact rfl);all_goals first|exact yes (by rw [Bool.not_false,uq3];exact hJ)|skip
   rw [hz0,uq3] at e1;rcases hop:dX L key with _|_
   . rw [hop] at e1 hq;subst e1;simp -dsimp -implicitDefEqProofs only [pz,↓reduceIte,aT];simp -dsimp -implicitDefEqProofs only [go_sem,gl,gr,lk,hz0];((with_reducible and_intros);all_goals try (omega));refine ab hq ?_;simp -dsimp -implicitDefEqProofs only [go_sem];refine ak.up [0,2,3,4,7,8,11,12,13,28,29] [55] [] ae.length (fun i=>((cf i).all fun i=> !c2 i)=true) (fun i=>[(30,eI i)]) (fun _=>[]) rfl ?_ rfl (fun i hi hJ=> ?_) (fun hJ=> ?_)
     . simp -dsimp -implicitDefEqProofs only [go_sem]
     . have hit:i<t.length:=by omega
       have hki:k<t[i].length:=by rw [hk i hit];exact hkD
       have git:=get_some hit;have gik:=get_some hki;have gci:=get_some hi;have lci:=aG hi;have e3:=e2 i;rw [show (t.getD i []).getD k 0=t[i][k] by simp [uq7,hit,hki],show ae.getD i []=ae[i] by simp [uq7,hi]] at e3;have hcl:=hc _ (uq9 hi);have hq2:=vv L key ae[i] (by omega) (by omega) (by omega) (fun x hx=>by have:=Yf x hx;omega);have yes2:c2 i=false->((cf (i+1)).all fun i=> !c2 i)=true:=fun h=>by rw [bn,hJ,h];rfl
       have no2:c2 i=true->R=false:=fun h=>no (by rw [Bool.not_false,uq3];exact b9 hi (by rw [h];rfl));generalize ((cf (i+1)).all fun i=> !c2 i)=R2 at*;generalize c2 i=c3 at*;clear hJ;generalize ae[i]=cc at*;generalize t[i]=ti at*;generalize ti[k]=y at*;rcases hz1:(z==1) with _|_
       . rw [hz1,uq1,uq1] at e3;simp -dsimp -implicitDefEqProofs only [pz,bC,bD,bx,↓reduceIte,aT];simp -dsimp -implicitDefEqProofs only [go_sem,gci,lci,gr,hz1];((with_reducible and_intros);all_goals try first|omega|(refine ⟨?_,?_⟩<;>omega)|exact rfl);all_goals first|exact yes2 e3|skip
       rw [hz1,uq3] at e3;rcases hy:(y==0) with _|_
       . rw [hy,uq1] at e3;simp -dsimp -implicitDefEqProofs only [pz,bC,bD,bx,↓reduceIte,aT];simp -dsimp -implicitDefEqProofs only [go_sem,gci,lci,gr,hz1,git,gik,hy];((with_reducible and_intros);all_goals try first|omega|(refine ⟨?_,?_⟩<;>omega)|exact rfl);all_goals first|exact yes2 e3|skip
       rw [hy,uq3] at e3;simp -dsimp -implicitDefEqProofs only [pz,bC,bD,bx,↓reduceIte,aT];simp -dsimp -implicitDefEqProofs only [go_sem,gci,lci,gr,hz1,git,gik,hy];((with_reducible and_intros);all_goals try (omega));refine ab hq2 ?_;rcases hw:nQ L key cc with _|_
       . rw [hw] at e3;simp -dsimp -implicitDefEqProofs only [go_sem];((with_reducible and_intros);all_goals try first|(refine ⟨?_,?_⟩<;>omega)|exact rfl);all_goals first|exact yes2 e3|skip
       rw [hw] at e3;rw [no2 e3];simp -dsimp -implicitDefEqProofs only [go_sem]
     simp -dsimp -implicitDefEqProofs only [pz,bC,bD,bx,↓reduceIte,aT];simp -dsimp -implicitDefEqProofs only [go_sem,aC];((with_reducible and_intros);all_goals try first|(refine ⟨?_,?_⟩<;>omega)|exact rfl);all_goals first|exact yes (by rw [Bool.not_false,uq3];exact hJ)|skip
   rw [hop] at e1 hq;subst e1;rw [no rfl];simp -dsimp -implicitDefEqProofs only [pz,↓reduceIte,aT];simp -dsimp -implicitDefEqProofs only [go_sem,gl,gr,lk,hz0];((with_reducible and_intros);all_goals try (omega));refine ab hq ?_;simp -dsimp -implicitDefEqProofs only [go_sem]
 have lD:decide ((D:Int)<(ls.length:Int))=false:=by rw [hll];simp
 simp -dsimp -implicitDefEqProofs only [pz,↓reduceIte,aT];simp -dsimp -implicitDefEqProofs only [go_sem,lD];all_goals first|(rw [hI])|skip
theorem GJ (m:aL) (t ae:lL) (hm:a6 m=true) (h0:t.length<=1000) (h1:ae.length<t.length) (hk:∀i (hi:i<t.length),t[i].length=(t.getD 0 []).length) (hd:(t.getD 0 []).length<=1000)
 (hc:∀x∈ae,(x.length:Int)=m.ah/\∀y∈x,0<=y/\y<m.aq):Fn pG 270 [jR m t,aR ae] false (fun r=>r= .cy 280 (oh m t ae)):=by
 refine Fn.PF 17 [.tmp 4] func270 (hv:= ?_);have hp:=gv m t ae hm h0 (by omega) (by omega) hk hd hc;have gr:=get_some h1;have er:t[ae.length]=t.getD ae.length []:=by rw [uq7,gr];rfl
 rw [er] at gr;unfold oh;generalize aA m t ae (t.getD 0 []).length=ls at*;generalize t.getD ae.length []=row at*;simp -dsimp -implicitDefEqProofs only [go_sem];refine ak.draw mixed rfl ?_;simp -dsimp -implicitDefEqProofs only [go_sem];refine aI hp (by simp [ay,ao,au,aH]) ?_;simp -dsimp -implicitDefEqProofs only [go_sem,gr];((with_reducible and_intros);all_goals try first|omega|exact rfl);refine ⟨_,rfl,⟨_,rfl,rfl,fun x hx=> ?_,by simp,rfl⟩,⟨_,rfl,rfl,fun x hx=> ?_,by simp,rfl⟩,⟨_,rfl,rfl,fun x hx=> ?_,by simp,rfl⟩,⟨_,rfl,rfl,fun x hx=> ?_,by simp,rfl⟩,trivial⟩
 . rw [List.mem_singleton] at hx;subst hx;exact ⟨rfl,rfl⟩
 . rw [List.mem_singleton] at hx;subst hx;exact ⟨rfl,rfl⟩
 . rw [List.mem_singleton] at hx;subst hx;exact ⟨rfl,rfl⟩
 simp only [List.mem_cons,List.not_mem_nil,or_false] at hx;rcases hx with rfl|rfl|rfl|rfl|rfl|rfl<;>exact ⟨rfl,rfl⟩
theorem Nk (n:Int):Fn pG 253 [eI n] true (· =eB (bF n 0 4000)):=by refine Fn.av 5 [.tmp 2] func253 (hv:= ?_);have hw:=kU n 0 4000;simp -dsimp -implicitDefEqProofs only [go_sem];refine ab hw ?_;simp -dsimp -implicitDefEqProofs only [go_sem]
theorem Du (m:aL) (t ae:lL) (hm:a6 m=true) (h0:t.length<=1000) (h1:ae.length<=t.length) (h2:0<t.length) (hk:∀i (hi:i<t.length),t[i].length=(t.getD 0 []).length) (hd:(t.getD 0 []).length<=1000)
 (hc:∀x∈ae,(x.length:Int)=m.ah/\∀y∈x,0<=y/\y<m.aq):Fn pG 254 [jR m t,aR ae] true (· =eB (lT m t ae)):=by
 refine Fn.av 10 [.tmp 4] func254 (hv:= ?_);have hp:=nI m t ae hm h0 h1 h2 hk hd hc;unfold lT;generalize gS m t ae=F at*;simp -dsimp -implicitDefEqProofs only [go_sem];refine ax hp (by simp [ay,ao,au,aH]) ?_;simp -dsimp -implicitDefEqProofs only [go_sem]
theorem GK (m:aL) (t:lL) (h:t.length<=1048576) (h2:∀x∈t,x.length<=1048576):Fn pG 252 [jR m t,.val (.slice none 0 0)] true (· =eI (if eV m t=true then 0 else 1)):=by
 refine Fn.av 21 [.tmp 4] func252 (hv:= ?_);have hs:=ve m t h h2;rcases hb:eV m t with _|_
 . rw [hb] at hs;rw [if_neg (by simp)];simp -dsimp -implicitDefEqProofs only [go_sem];refine ab hs ?_;simp -dsimp -implicitDefEqProofs only [go_sem]
 rw [hb] at hs;rw [if_pos rfl];have hm:=lR hb;have ha:=(tz m [] hm (by simp) (by simp)).Qa (args':=[kV m,.val (.slice none 0 0)]) (.cons (.refl _) (.cons (.nil _) .nil));rw [show (([]:lL).all (fF m))=true from rfl] at ha;have e:decide ((0:Int)>(t.length:Int))=false:=dF (by omega);simp -dsimp -implicitDefEqProofs only [go_sem];refine ab hs ?_;simp -dsimp -implicitDefEqProofs only [go_sem,e];refine ab ha ?_;simp -dsimp -implicitDefEqProofs only [go_sem]
theorem zF (m:aL) (t:lL) (lim:Int) (h:t.length<=1048576) (h2:∀x∈t,x.length<=1048576):Fn pG 210 [jR m t,.val (.slice none 0 0),eI lim] true (· =eI (k7 m t lim)):=by
 refine Fn.av 21 [.tmp 6] func210 (hv:= ?_);have hp:=GK m t h h2;have hl:=Nk lim;unfold k7;rcases hb:eV m t with _|_
 . rw [hb,if_neg (by simp)] at hp;rw [if_neg (by simp)];have e:((1:Int) != 0)=true:=rfl;simp -dsimp -implicitDefEqProofs only [go_sem];refine ab hp ?_;simp -dsimp -implicitDefEqProofs only [go_sem,e]
 rw [hb,if_pos rfl] at hp;rw [if_pos rfl];have e:((0:Int) != 0)=false:=rfl;rcases hi:bF lim 0 4000 with _|_
 . rw [hi] at hl;rw [if_neg (by simp)];simp -dsimp -implicitDefEqProofs only [go_sem];refine ab hp ?_;simp -dsimp -implicitDefEqProofs only [go_sem,e];refine ab hl ?_;simp -dsimp -implicitDefEqProofs only [go_sem]
 rw [hi] at hl;rw [if_pos rfl];have hF:M9 m t []:=V4 hb (by simp) (fun x hx=>by cases hx);have ho:=(Du m t [] hF.pR hF.tl hF.le hF.t0 hF.row hF.wd (fun x hx=>by cases hx)).Qa (args':=[jR m t,.val (.slice none 0 0)]) (.cons (.refl _) (.cons (.nil _) .nil));rw [show lT m t []=true from rfl] at ho;simp -dsimp -implicitDefEqProofs only [go_sem];refine ab hp ?_;simp -dsimp -implicitDefEqProofs only [go_sem,e];refine ab hl ?_;simp -dsimp -implicitDefEqProofs only [go_sem];refine ab ho ?_;simp -dsimp -implicitDefEqProofs only [go_sem]
def gF (m:aL) (t:lL) (lim:Nat) (part:lL) (rec:lL->SS->Bool × SS) (st:SS × Bool) (k:lI):(SS × Bool) × Bool:=
 if ((st.1.tries:Int)==(lim:Int))=true then ((⟨st.1.tries,true,st.1.found⟩,false),false)
 else if nR m t part k=true then (((rec (part++[k]) ⟨st.1.tries+1,st.1.stop,st.1.found⟩).2,(rec (part++[k]) ⟨st.1.tries+1,st.1.stop,st.1.found⟩).1),(rec (part++[k]) ⟨st.1.tries+1,st.1.stop,st.1.found⟩).1)
 else ((⟨st.1.tries+1,st.1.stop,st.1.found⟩,st.2),st.2)
def gg (m:aL) (t:lL) (lim:Nat):Nat->lL->SS->Bool × SS
 |0,part,z=>(false,⟨z.tries,z.stop,z.found++[part]⟩)
 |d+1,part,z=>((bH (gF m t lim part (gg m t lim d)) (z,true) (bE m)).1.2,(bH (gF m t lim part (gg m t lim d)) (z,true) (bE m)).1.1)
theorem GL (m:aL) (t:lL) (lim d:Nat) (part:lL) (z:SS):gg m t lim (d+1) part z=((bH (gF m t lim part (gg m t lim d)) (z,true) (bE m)).1.2,(bH (gF m t lim part (gg m t lim d)) (z,true) (bE m)).1.1):=rfl
structure XJ (lim:Nat) (z:SS) (r:Bool × SS):Prop where
 tr:r.2.tries<=lim
 same:r.1=true->r.2.found=z.found
 le:r.2.found.length<=z.found.length+1
theorem Ux {m:aL} {t:lL} {lim:Nat} {part:lL} {rec:lL->SS->Bool × SS} (hr:∀p z,z.tries<=lim->XJ lim z (rec p z)) (st:SS × Bool) (k:lI) (h:st.1.tries<=lim):
 (gF m t lim part rec st k).1.1.tries<=lim/\((gF m t lim part rec st k).1.2=true->(gF m t lim part rec st k).1.1.found=st.1.found)/\(gF m t lim part rec st k).1.1.found.length<=st.1.found.length+1/\(gF m t lim part rec st k).2=(gF m t lim part rec st k).1.2:=by
 unfold gF;split
 . exact ⟨h,fun _=>rfl,Nat.le_succ _,rfl⟩
 rename_i hne;have hne:st.1.tries≠lim:=fun e=>hne (by rw [e];simp);split
 . have:=hr (part++[k]) ⟨st.1.tries+1,st.1.stop,st.1.found⟩ (by simp only;omega);exact ⟨this.tr,this.same,this.le,rfl⟩
 exact ⟨by simp only;omega,fun _=>rfl,Nat.le_succ _,rfl⟩
theorem Ky {m:aL} {t:lL} {lim:Nat} {part:lL} {rec:lL->SS->Bool × SS} (hr:∀p z,z.tries<=lim->XJ lim z (rec p z)):∀(ks:lL) (z:SS),z.tries<=lim→
 XJ lim z ((bH (gF m t lim part rec) (z,true) ks).1.2,(bH (gF m t lim part rec) (z,true) ks).1.1)
 | [],z,h=>⟨h,fun _=>rfl,Nat.le_succ _⟩
 |k::ks,z,h=>by
  obtain ⟨g1,g2,g3,g4⟩:=Ux (m:=m) (t:=t) (part:=part) hr (z,true) k h;rw [bH];split
  . rename_i hb;rw [g4] at hb;have e:(gF m t lim part rec (z,true) k).1=((gF m t lim part rec (z,true) k).1.1,true):=Prod.ext rfl hb;have ih:=Ky hr ks (gF m t lim part rec (z,true) k).1.1 g1 (m:=m) (t:=t) (part:=part);rw [e];have hs:=g2 hb;exact ⟨ih.tr,fun h=>(ih.same h).trans hs,by have:=ih.le;rw [hs] at this;exact this⟩
  exact ⟨g1,g2,g3⟩
theorem Dv (m:aL) (t:lL) (lim:Nat):∀(d:Nat) (part:lL) (z:SS),z.tries<=lim->XJ lim z (gg m t lim d part z)
 |0,part,z,h=>⟨h,fun h=>(by cases h),by simp [gg]⟩
 |d+1,part,z,h=>Ky (fun p z h=>Dv m t lim d p z h) (bE m) z h
theorem y6 {m:aL} {t:lL} {lim:Nat} {part:lL} {recG recF:lL->SS->Bool × SS} (hst:∀k∈bE m,lT m t (part++[k])=nR m t part k)
 (hok:∀p z,z.tries<=lim->XJ lim z (recG p z)) (lu:∀k∈bE m,nR m t part k=true->∀z,z.tries<=lim->z.found=[]->recF (part++[k]) z=(!(recG (part++[k]) z).1,(recG (part++[k]) z).2)):∀(ks:lL) (z:SS),(∀k∈ks,k∈bE m)->z.tries<=lim->z.found=[]→
 DT m t lim part recF ks z=(!(bH (gF m t lim part recG) (z,true) ks).1.2,(bH (gF m t lim part recG) (z,true) ks).1.1)
 | [],z,_,_,_=>rfl
 |k::ks,z,hk,h,hz=>by
  have hka:=hk k (List.mem_cons_self ..);have hks:∀x∈ks,x∈bE m:=fun x hx=>hk x (List.mem_cons_of_mem _ hx);rw [DT,bH];by_cases e1:((z.tries:Int)==(lim:Int))=true
  . have eg:gF m t lim part recG (z,true) k=((⟨z.tries,true,z.found⟩,false),false):=by unfold gF;rw [if_pos e1]
    rw [if_pos e1,eg,if_neg (by simp)];rfl
  have hne:z.tries≠lim:=fun e=>e1 (by rw [e];simp);rw [if_neg e1,hst k hka];by_cases e2:nR m t part k=true
  . have hr:=lu k hka e2 ⟨z.tries+1,z.stop,z.found⟩ (by simp only;omega) hz;have hg:=hok (part++[k]) ⟨z.tries+1,z.stop,z.found⟩ (by simp only;omega);have eg:gF m t lim part recG (z,true) k=(((recG (part++[k]) ⟨z.tries+1,z.stop,z.found⟩).2,(recG (part++[k]) ⟨z.tries+1,z.stop,z.found⟩).1),(recG (part++[k]) ⟨z.tries+1,z.stop,z.found⟩).1):=by
     unfold gF;rw [if_neg e1,if_pos e2]
    rw [if_pos e2,eg,hr];generalize recG (part++[k]) ⟨z.tries+1,z.stop,z.found⟩=w at*;obtain ⟨b,z1⟩:=w;cases b with
    |true=>
     have hf:z1.found=[]:=(hg.same rfl).trans hz;have:=y6 hst hok lu ks z1 hks hg.tr hf;simpa using this
    |false=>simp
  have eg:gF m t lim part recG (z,true) k=((⟨z.tries+1,z.stop,z.found⟩,true),true):=by unfold gF;rw [if_neg e1,if_neg e2]
  rw [if_neg e2,eg,if_pos rfl];exact y6 hst hok lu ks _ hks (by simp only;omega) hz
theorem Ci {m:aL} {t:lL} {lim:Nat} (hm:a6 m=true):∀(d:Nat) (part:lL) (z:SS),(∀k∈part,k∈bE m)->lT m t part=true->z.tries<=lim->z.found=[]→
 dP m t lim d part z=(!(gg m t lim d part z).1,(gg m t lim d part z).2)
 |0,part,z,_,_,_,hz=>by simp [dP,gg,hz]
 |d+1,part,z,hp,ho,h,hz=>by
  have hn:=aO hm;have hpk:∀x∈part,(x.length:Int)=m.ah/\∀y∈x,0<=y/\y<m.aq:=fun x hx=>by have:=kq (m:=m) (by omega) (hp x hx);exact ⟨this.len,this.el⟩
  rw [dP,GL];refine y6 (fun k _=>y4 m t part k ho hpk) (fun p z h=>Dv m t lim d p z h) (fun k hk hs z hz1 hz2=> ?_) (bE m) z (fun _ h=>h) h hz;refine Ci hm d (part++[k]) z (fun x hx=> ?_) (by rw [y4 m t part k ho hpk];exact hs) hz1 hz2;rcases List.mem_append.1 hx with hx|hx
  . exact hp x hx
  rw [List.mem_singleton] at hx;subst hx;exact hk
end Go.Vc
