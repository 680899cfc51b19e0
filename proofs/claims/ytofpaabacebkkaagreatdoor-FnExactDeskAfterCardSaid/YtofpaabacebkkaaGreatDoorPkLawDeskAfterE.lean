import Derived.Shelf.RegionOpenPlain
import Derived.Deep.LoopGhost
import Derived.Deep.RegionLaw
import Derived.Lib.Walk
import Derived.Lib.SliceRun
import Derived.Test.YtofpaabacebkkaaGreatDoorPkLawDeskAfterD
open Go.Proofs.Tryz
open Go.Proofs.Tryz renaming prog → pG
set_option linter.unusedVariables false
set_option linter.unusedSimpArgs false
set_option linter.unnecessarySimpa false
set_option maxRecDepth 1000000
set_option maxHeartbeats 16000000
open Bool renaming and_eq_true->uq0
open List renaming all_eq_true->uq1,drop_succ_cons->uq2,drop_zero->uq3,getD_eq_getElem?_getD->uq4,getElem?_eq_getElem->uq5,getElem_mem->uq6,length_append->uq7,map->uq8,map_take->uq9,mem_append->dD,mem_cons_self->bW,mem_range->cr,mem_singleton->bQ,range->bB,range_succ->bk,take->bR,take_length->cK,take_of_length_le->cP,take_succ_cons->hZ,take_succ_eq_append_getElem->jd,take_zero->cf
open Nat renaming le_refl->cH,pow_le_pow_right->cL,reduceAdd->aY,reduceBEq->bg,reduceDiv->bj,reduceEqDiff->aP
open Option renaming isSome_none->fW,isSome_some->gB
namespace Go.Vc
open Go.Proofs Go.Shelf Go.RowKit Go.Lib Go.Sort
set_option maxHeartbeats 4000000 in
theorem vi (w:World) (b cap i j n:Nat) (cs:aV) (e:El) (hb:w.heap[b]? =some (eo cs e)) (hcs:cs.size=cap*1) (cj:cap<=9223372036854775807) (hj:j=i+1) (hi:i<n) (hn:n<=cap) (h1:∀v,v∈(cs.toList.drop (j*1)).take ((n-j)*1)->v.oneCell'=true):
 Calls pG 114 #[.slice (some ⟨b,0,none⟩) n cap,.int .i64 i,.int .i64 j] w fun e' w'=>e'= .returned (.slice (some ⟨b,0,none⟩) (n-1) cap)∧
  ∃q,w'=((w.drewN q).setCells b (i*1) ((cs.toList.drop (j*1)).take ((n-j)*1))).setCells b (n-1) [.slice none 0 0]:=by
 obtain ⟨news,qw⟩:∃news,news=(cs.toList.drop (j*1)).take ((n-j)*1):=⟨_,rfl⟩;rw [←qw];have hlen:news.length=(n-j)*1:=by rw [qw];simp;omega
 obtain ⟨A,hA,Wn⟩:∃A:Addr,(if cap=j then (some ⟨b,0,none⟩:Option Addr) else some ⟨b,j,none⟩)=some A/\Hid (∀t u,news[t]? =some u->w.drew.cell? (A.add t)=some u):=by
  by_cases h:cap=j
  . refine ⟨⟨b,0,none⟩,by simp [h],fun t u hu=> ?_⟩;have h0:news.length=0:=by rw [hlen];omega
    rw [List.length_eq_zero_iff.1 h0] at hu;simp at hu
  refine ⟨⟨b,j,none⟩,by simp [h],fun t u hu=> ?_⟩;have ht:t<(n-j)*1:=by
   have:=(List.getElem?_eq_some_iff.1 hu).1
   rwa [hlen] at this
  rw [qw,List.getElem?_take,if_pos ht,List.getElem?_drop] at hu;rw [Addr.add_lit];show w.cell? _=_;simp only [World.cell?,hb,fW,Bool.false_eq_true,↓reduceIte];simpa using hu
 have s1:Hid (news.length=(n-j)*1):=hlen;have s2:Hid (∀u∈news,u.oneCell'=true):=by intro u hu;rw [qw] at hu;exact h1 u hu
 have s3:Hid (∀t,t<news.length->(w.drew.cell? ⟨b,0+i*1+t,none⟩).isSome=true/\w.drew.frozen? ⟨b,0+i*1+t,none⟩=false):=by
  intro t ht;rw [hlen] at ht;have hlt:0+i*1+t<cs.size:=by omega
  refine ⟨?_,?_⟩
  . show (w.cell? _).isSome=true;simp [World.cell?,hb];omega
  show w.frozen? _=false;exact mg hb hlt
 obtain ⟨W1,hW1⟩:∃W1,W1=w.drew.setCells b (0+i*1) news:=⟨_,rfl⟩;have hsz:((cs.toList.take (0+i*1)++news++cs.toList.drop (0+i*1+news.length)).toArray).size=cap*1:=by simp [hlen];omega
 have TJ:W1.heap[b]? =some (eo (cs.toList.take (0+i*1)++news++cs.toList.drop (0+i*1+news.length)).toArray e):=by rw [hW1,nu (P:=pG) (w:=w.drew) hb s2.out (by rw [hlen];omega)];exact bZ (w:=w.drew) hb (by rw [hsz];exact hcs.symm)
 generalize (cs.toList.take (0+i*1)++news++cs.toList.drop (0+i*1+news.length)).toArray=cs1 at TJ hsz;have hcl:∀ty,(Builtin.clear_ #[24] ty #[.slice (some ⟨b,i+(n-j),none⟩) (n-(i+(n-j))) (cap-(i+(n-j)))]).run pG W1= .ok (.tuple #[]) (W1.setCells b (n-1) [.slice none 0 0]):=by
  intro ty;have e1:i+(n-j)=n-1:=by omega
  have e2:n-(n-1)=1:=by omega
  rw [e1,e2]
  have hst:=run_storeCells_cells (P:=pG) b (n-1) [.slice none 0 0] 0 W1 (fun j hj=>by
   have hj:j<1:=hj;have hlt:(n-1)+0+j<cs1.size:=by omega
   simp [World.cell?,TJ];omega) (fun j hj=>by
   have hj:j<1:=hj
   exact mg TJ (by omega)) (by
   intro v hv;simp only [List.mem_cons,List.not_mem_nil,or_false] at hv
   subst hv;rfl)
  simp only [Nat.add_zero] at hst;have hz:(Builtin.zeroCells #[Value.slice none 0 0] 1).toList=[.slice none 0 0]:=by
   refine List.ext_getElem (by simp [Builtin.zeroCells]) fun t h1 h2=> ?_;have:t=0:=by simp at h2;omega
   subst this;simp [Builtin.zeroCells]
  simp [Builtin.clear_,run_underlying underlying24,zeroValue58,Value.cells,hz,hst]
 have hW:Hid (W1=w.drew.setCells b (0+i*1) news):=hW1;have X:Aside (W1=w.drew.setCells b (0+i*1) news):=hW1;have hj':Aside (j=i+1):=hj;have hij:(i==j)=false:=by simp;omega
 have hlt:i<j:=by omega
 have hjn:j<=n:=by omega
 have mixed:Tryz.prog.follows .mixedOrders=true:=mixed;have hic:i<=cap:=by omega
 have hjc:j<=cap:=by omega
 clear hW1 TJ hsz qw hlen hb hcs h1 hj
 go_enter func114,Tryz.ntmps114
 obtain ⟨i0,hi0⟩:∃i,Tryz.prog.info? 58=some i:=Option.isSome_iff_exists.1 (by kernel_rfl);have hz1:i0.size=1:=by
  have:(Tryz.prog.info? 58).map (fun i=>i.size)=some 1:=by kernel_rfl
  rw [hi0] at this;simpa using this
 go_wp2_with fail
 go_region_law_o (refine step_append_room rfl (.tmp 22) (.tmp 25) 24 rfl 58 i0 1 underlying24 hi0 hz1 b 0 i cap (by simp [Act.eval,Act.put]) A (n-j) (cap-j) news (by simp [Act.eval,Act.put]) s1.out Wn.out s2.out (by omega) s3.out ?_;rw [←hW.out])
 go_wp2
 go_ret
 have hj:=hj'.out;refine ⟨by rw [show n-1=i+(n-j) by omega];rfl,1,?_⟩;rw [X.out,Nat.zero_add];rfl
attribute [go_sem] Option.map_none Nat.sub_zero
def fg (x:Int):Int:=if x< -x then -x else x
def ba (c:lI):Nat->Nat
 |0=>1
 |i+1=>if c.getD (i+1) 0=c.getD i 0 then ba c i+1 else 1
theorem iq (c:lI) (i:Nat):1<=ba c i/\ba c i<=i+1/\(∀j,j<ba c i->c.getD (i-j) 0=c.getD i 0)/\(ba c i<i+1->c.getD (i-ba c i) 0≠c.getD i 0):=by
 induction i with
 |zero=>exact ⟨cH _,cH _,fun j hj=>by simp [ba] at hj;subst hj;rfl,fun h=>by simp [ba] at h⟩
 |succ i ih=>
  obtain ⟨h1,h2,h3,h4⟩:=ih;simp only [ba];split
  . rename_i e;refine ⟨by omega,by omega,fun j hj=> ?_,fun hj=> ?_⟩
    . rw [e];cases j with
      |zero=>exact e
      |succ j=>rw [show i+1-(j+1)=i-j by omega];exact h3 j (by omega)
    rw [e,show i+1-(ba c i+1)=i-ba c i by omega];exact h4 (by omega)
  rename_i e;refine ⟨by omega,by omega,fun j hj=> ?_,fun _=> ?_⟩
  . have:j=0:=by omega
    subst this;rfl
  show c.getD i 0≠_;exact fun h=>e h.symm
theorem yu (c:lI) (n i:Nat) (h:i<n):ba (c.take n) i=ba c i:=by
 have g:∀j,j<n->(c.take n).getD j 0=c.getD j 0:=fun j hj=>by simp [uq4,hj]
 induction i with
 |zero=>rfl
 |succ i ih=>simp only [ba];rw [g (i+1) h,g i (by omega),ih (by omega)]
def dA (c:lI) (i:Nat):Nat:=if i=0 then 0 else ba c (i-1)
def du (c:lI):Nat->Nat
 |0=>0
 |i+1=>if du c i<ba c i then ba c i else du c i
theorem MB (c:lI) (s:Int) (hs:0<=s) (n:Nat):decide ((du c n:Int)>s)= !((bB n).all fun i=>decide ((ba c i:Int)<=s)):=by
 induction n with
 |zero=>simp [du];omega
 |succ n ih=>
  rw [bn,Bool.not_and,←ih];simp only [du];split
  . by_cases h:(ba c n:Int)<=s
    . rw [decide_eq_true h,decide_eq_false (show ¬(du c n:Int)>s by omega),decide_eq_false (show ¬(ba c n:Int)>s by omega)];rfl
    rw [decide_eq_false h,decide_eq_true (show (ba c n:Int)>s by omega)];simp
  by_cases h:(ba c n:Int)<=s
  . rw [decide_eq_true h];simp
  rw [decide_eq_false h,decide_eq_true (show (du c n:Int)>s by omega)];simp
def cE (m:aL) (c:lI) (i:Nat):Bool:=i==0||decide (fg (c.getD i 0-c.getD (i-1) 0)<=m.step)
def bq (c:lI) (n:Nat):Nat:=((bB n).filter fun i=> !has (c.take i) (c.getD i 0)).length
theorem sA (c:lI) (i:Nat) (h:i<c.length):(bq c (i+1):Int)=if (!has (c.take i) c[i])=true then (bq c i:Int)+1 else bq c i:=by
 have g:c.getD i 0=c[i]:=by simp [uq4,h]
 rw [bq,bk,List.filter_append,List.filter_cons,g];split<;>simp [bq]
theorem jt (c:lI) (i:Nat):bq c i<=i:=by rw [bq];exact Nat.le_trans (List.length_filter_le _ _) (by simp)
def fault (m:aL) (c:lI):Int:=
 if (c.length:Int)≠m.ah then 1
 else if (c.all fun x=>bF x 0 (m.aq-1))=false then 2
 else if ((bB c.length).all (cE m c))=false then 3
 else if ((bB c.length).all fun i=>decide ((ba c i:Int)<=m.same))=false then 4
 else if (bq c c.length:Int)<m.least then 5 else 0
attribute [irreducible] ba du bq
theorem F0 (x:Int) (h: -1000<=x/\x<=1000):Fn pG 92 [eI x] true (· =eI (fg x)):=by
 refine Fn.av 7 [.tmp 2] func92 (hv:= ?_);simp -dsimp -implicitDefEqProofs only [go_sem];with_reducible and_intros
 all_goals first|(refine ⟨?_,?_⟩<;>omega)|(simp_all [fg];done)|skip
theorem ju (x:Int) (h: -1000<=x/\x<=1000):Fn pG 131 [eI x] true (· =eI (fg x)):=by
 refine Fn.av 7 [.tmp 2] func131 (hv:= ?_);simp -dsimp -implicitDefEqProofs only [go_sem];with_reducible and_intros
 all_goals first|(refine ⟨?_,?_⟩<;>omega)|(simp_all [fg];done)|skip
theorem qO (c:lI) (h:c.length<=1048576):Fn pG 93 [aM c] true (· =eI (bq c c.length)):=by
 refine Fn.av 23 [.tmp 2] func93 (hv:= ?_);simp -dsimp -implicitDefEqProofs only [go_sem];refine ak.up [0] [7,18] [] c.length (fun _=>True) (fun i=>[(4,eI i),(3,eI (bq c i))]) (fun _=>[]) trivial ?_ rfl (fun i hi _=> ?_) (fun _=> ?_)
 . simp -dsimp -implicitDefEqProofs only [go_sem];all_goals first|(simp [bq];done)|skip
 . have gi:=get_some hi;have li:=aG hi;have hs:=sA c i hi;have hle:=jt c i;simp -dsimp -implicitDefEqProofs only [pz,↓reduceIte,aP];rw [hs];clear hs;simp -dsimp -implicitDefEqProofs only [go_sem,li]
   repeat' first
    |(refine Br.intro (fun _=> ?_) (fun _=> ?_)<;>try simp -dsimp -implicitDefEqProofs only [go_sem, *])
    |(with_reducible refine ai ?_ ?_)
    |(refine ak.draw mixed rfl ?_;try simp -dsimp -implicitDefEqProofs only [go_sem, *])
    |(rw [←uq9];refine an (FV (c.take i) c[i] (by simp;omega)) ?_;try simp -dsimp -implicitDefEqProofs only [go_sem, *])
   all_goals first
    |omega|(refine ⟨?_,?_⟩<;>omega)|(simp;done)
    |rfl
    |skip
 have hle:=jt c c.length;simp -dsimp -implicitDefEqProofs only [pz,↓reduceIte,aP];simp -dsimp -implicitDefEqProofs only [go_sem,aC]
theorem iE (c:lI) (h:c.length<=1048576):Fn pG 133 [aM c] true (· =eI (bq c c.length)):=by
 refine Fn.av 23 [.tmp 2] func133 (hv:= ?_);simp -dsimp -implicitDefEqProofs only [go_sem];refine ak.up [0,6,7] [17] [] c.length (fun _=>True) (fun i=>[(8,eI i),(3,eI (bq c i))]) (fun _=>[]) trivial ?_ rfl (fun i hi _=> ?_) (fun _=> ?_)
 . simp -dsimp -implicitDefEqProofs only [go_sem];all_goals first|(simp [bq];done)|skip
 . have gi:=get_some hi;have li:=aG hi;have hs:=sA c i hi;have hle:=jt c i;simp -dsimp -implicitDefEqProofs only [pz,↓reduceIte,aP];rw [hs];clear hs;simp -dsimp -implicitDefEqProofs only [go_sem,li,gi]
   repeat' first
    |(refine Br.intro (fun _=> ?_) (fun _=> ?_)<;>try simp -dsimp -implicitDefEqProofs only [go_sem, *])
    |(with_reducible refine ai ?_ ?_)
    |(rw [←uq9];refine ab (qK (c.take i) c[i] (by simp;omega)) ?_;try simp -dsimp -implicitDefEqProofs only [go_sem, *])
   all_goals first
    |omega|(refine ⟨?_,?_⟩<;>omega)|(simp;done)
    |skip
 have hle:=jt c c.length;simp -dsimp -implicitDefEqProofs only [pz,↓reduceIte,aP];simp -dsimp -implicitDefEqProofs only [go_sem,aC]
theorem kC (c:lI) (h0:0<c.length) (h:c.length<=1048576):Fn pG 132 [aM c] true (· =eI (ba c (c.length-1))):=by
 refine Fn.av 28 [.tmp 2] func132 (hv:= ?_);obtain ⟨p1,p2,p3,p4⟩:=iq c (c.length-1);generalize hR:ba c (c.length-1)=R at p1 p2 p3 p4;have gl:c[c.length-1]? =some (c.getD (c.length-1) 0):=by simp [uq4,show c.length-1<c.length by omega]
 generalize c.getD (c.length-1) 0=z at gl p3 p4;have q3:∀j,j<R->c[c.length-1-j]? =some z:=fun j hj=>by rw [←p3 j hj];simp [uq4,show c.length-1-j<c.length by omega]
 have e1:((c.length:Int)-1).toNat=c.length-1:=by omega
 simp -dsimp -implicitDefEqProofs only [go_sem];refine ak.up [0] [6,11,19] [] (R-1) (fun _=>True) (fun i=>[(3,eI ((i+1:Nat):Int))]) (fun _=>[]) trivial ?_ rfl (fun i hi _=> ?_) (fun _=> ?_)
 . simp -dsimp -implicitDefEqProofs only [go_sem];all_goals first|(simp;done)|skip
 . have g:=q3 (i+1) (by omega);have li:decide (((i+1:Nat):Int)<(c.length:Int))=true:=dT (by omega);have e2:((c.length:Int)-1-((i+1:Nat):Int)).toNat=c.length-1-(i+1):=by omega
   clear q3 p3 p4;simp -dsimp -implicitDefEqProofs only [pz,↓reduceIte,aP];simp -dsimp -implicitDefEqProofs only [go_sem]
   repeat' first
    |(with_reducible refine ai ?_ ?_)
    |(refine ak.draw mixed rfl ?_;try simp -dsimp -implicitDefEqProofs only [go_sem,li,e1,e2,g,gl])
   all_goals first
    |omega|(refine ⟨?_,?_⟩<;>omega)|(simp;done)
    |rfl
    |skip
 have er:R-1+1=R:=by omega
 clear q3 p3;rw [er];simp -dsimp -implicitDefEqProofs only [pz,↓reduceIte,aP];by_cases hlt:R<c.length
 . have g:c[c.length-1-R]? =some (c.getD (c.length-1-R) 0):=by simp [uq4,show c.length-1-R<c.length by omega]
   have hz:(c.getD (c.length-1-R) 0==z)=false:=beq_eq_false_iff_ne.2 (p4 (by omega));have li:decide ((R:Int)<(c.length:Int))=true:=dT (by omega);have e2:((c.length:Int)-1-(R:Int)).toNat=c.length-1-R:=by omega
   generalize c.getD (c.length-1-R) 0=y at g hz;clear p4;simp -dsimp -implicitDefEqProofs only [go_sem]
   repeat' first
    |(with_reducible refine ai ?_ ?_)
    |(refine ak.draw mixed rfl ?_;try simp -dsimp -implicitDefEqProofs only [go_sem,li,e1,e2,g,gl,hz])
   all_goals first
    |omega|(refine ⟨?_,?_⟩<;>omega)
    |rfl
    |skip
 have li:decide ((R:Int)<(c.length:Int))=false:=dF (by omega);clear p4;simp -dsimp -implicitDefEqProofs only [go_sem];repeat' (refine ak.draw mixed rfl ?_;try simp -dsimp -implicitDefEqProofs only [go_sem,li])
 all_goals first
  |rfl
  |skip
theorem yv (m:aL) (c:lI) (hm:a6 m=true) (h:c.length<=1048576):Fn pG 91 [kV m,aM c] true (· =eB ((c.all fun x=>bF x 0 (m.aq-1))&&((c.length:Int)==m.ah))):=by
 refine Fn.av 26 [.tmp 4] func91 (hv:= ?_);have hb:=aO hm;simp -dsimp -implicitDefEqProofs only [go_sem];refine ak.up [1,2] [8,19] [] c.length (fun i=>(c.take i).all (fun x=>bF x 0 (m.aq-1))) (fun i=>[(5,eI i)]) (fun _=>[]) (by simp) ?_ rfl (fun i hi hI=> ?_) (fun hI=> ?_)
 . simp -dsimp -implicitDefEqProofs only [go_sem]
 . have gi:=get_some hi;have li:=aG hi;have no:bF c[i] 0 (m.aq-1)=false->(c.all fun x=>bF x 0 (m.aq-1))=false:=fun h=>gQ (p:=fun x=>bF x 0 (m.aq-1)) hi h;have yes:bF c[i] 0 (m.aq-1)=true->(c.take (i+1)).all (fun x=>bF x 0 (m.aq-1))=true:=fun h=>by rw [dy _ _ _ hi,hI,h];rfl
   simp -dsimp -implicitDefEqProofs only [pz,bg,bj,aY,↓reduceIte,aP];simp -dsimp -implicitDefEqProofs only [go_sem,li]
   repeat' first
    |(refine Br.intro (fun _=> ?_) (fun _=> ?_)<;>try simp -dsimp -implicitDefEqProofs only [go_sem, *])
    |(with_reducible refine ai ?_ ?_)
    |(refine ak.draw mixed rfl ?_;try simp -dsimp -implicitDefEqProofs only [go_sem, *])
    |(refine an (jF _ _ _) ?_;try simp -dsimp -implicitDefEqProofs only [go_sem, *])
   all_goals first
    |omega
    |(refine ⟨?_,?_⟩<;>omega)
    |rfl
    |(rw [no (by simp_all)];rfl)
    |(refine yes ?_;simp_all;done)
    |skip
 simp -dsimp -implicitDefEqProofs only [pz,bg,bj,aY,↓reduceIte,aP];rw [cK] at hI;simp -dsimp -implicitDefEqProofs only [go_sem,aC];rw [hI];rfl
theorem IJ (m:aL) (c:lI) (hm:a6 m=true) (h:c.length<=1048576):Fn pG 130 [kV m,aM c] true (· =eB (((c.length:Int)==m.ah)&&(c.all fun x=>bF x 0 (m.aq-1)))):=by
 refine Fn.av 17 [.tmp 4] func130 (hv:= ?_);have hb:=aO hm;simp -dsimp -implicitDefEqProofs only [go_sem]
 repeat' first
  |(refine Br.intro (fun _=> ?_) (fun _=> ?_)<;>try simp -dsimp -implicitDefEqProofs only [go_sem, *])
  |(with_reducible refine ai ?_ ?_)
  |(refine ab (oX c 0 (m.aq-1) (by omega)) ?_;try simp -dsimp -implicitDefEqProofs only [go_sem, *])
 all_goals first
  |(refine ⟨?_,?_⟩<;>omega)
  |skip
theorem Kk {m:aL} {c:lI} (hm:a6 m=true) (ha:(c.all fun x=>bF x 0 (m.aq-1))=true) (i:Nat) (hi:i<c.length):0<=c[i]/\c[i]<=7:=by have:=aO hm;rw [uq1] at ha;have:=ha _ (uq6 hi);simp [bF] at this;omega
theorem mS {m:aL} (h:a6 m=true):1<=m.same/\m.same<=6/\1<=m.least/\1<=m.step:=by simp only [a6,uq0,bF,decide_eq_true_eq] at h;omega
theorem nG (m:aL) (c:lI) (hm:a6 m=true) (h:c.length<=1048576):Fn pG 78 [kV m,aM c] true (· =eI (fault m c)):=by
 refine Fn.av 71 [.tmp 4] func78 (hv:= ?_);rcases hl:((c.length:Int)==m.ah) with _|_
 . have hF:fault m c=1:=by rw [fault,if_pos (by simpa using hl)]
   rw [hF];simp -dsimp -implicitDefEqProofs only [go_sem];repeat' (refine Br.intro (fun _=> ?_) (fun _=> ?_)<;>try simp -dsimp -implicitDefEqProofs only [go_sem, *])
   all_goals (first|(simp_all;done)|skip)
 have hle:¬(c.length:Int)≠m.ah:=by simpa using hl
 rcases ha:(c.all fun x=>bF x 0 (m.aq-1)) with _|_
 . have hF:fault m c=2:=by rw [fault,if_neg hle,if_pos ha]
   have hc:=yv m c hm h;rw [ha,hl] at hc;rw [hF];clear hF ha hle;simp -dsimp -implicitDefEqProofs only [go_sem]
   repeat' first
    |(refine Br.intro (fun _=> ?_) (fun _=> ?_)<;>try simp -dsimp -implicitDefEqProofs only [go_sem, *])
    |(refine ab (hc) ?_;try simp -dsimp -implicitDefEqProofs only [go_sem, *])
   all_goals (first|(simp_all;done)|skip)
 have hF:fault m c=if ((bB c.length).all (cE m c))=false then 3 else if ((bB c.length).all fun i=>decide ((ba c i:Int)<=m.same))=false then 4 else if (bq c c.length:Int)<m.least then 5 else 0:=by rw [fault,if_neg hle,if_neg (by simp [ha])]
 have hc:=yv m c hm h;rw [ha,hl] at hc;have hel:=Kk hm ha;have hsm:=mS hm;have hkl:=jt c c.length;have hch:c.length<=6:=by have:=aO hm;omega
 clear ha hle;simp -dsimp -implicitDefEqProofs only [go_sem]
 repeat' first
  |(refine Br.intro (fun _=> ?_) (fun _=> ?_)<;>try simp -dsimp -implicitDefEqProofs only [go_sem, *])
  |(refine ab (hc) ?_;try simp -dsimp -implicitDefEqProofs only [go_sem, *])
 all_goals try ((simp_all;done))
 clear hl hc;refine ak.up [1,2] [19,36,59] [] c.length (fun i=>(bB i).all (cE m c)) (fun i=>[(7,eI i),(5,eI (dA c i)),(6,eI (du c i))]) (fun _=>[]) (by simp) ?_ rfl (fun i hi hI=> ?_) (fun hI=> ?_)
 . have h0:du c 0=0:=by unfold du;rfl
   rw [show dA c 0=0 from rfl,h0];simp -dsimp -implicitDefEqProofs only [go_sem]
 . have no:cE m c i=false->fault m c=3:=fun h=>by rw [hF,if_pos (b9 hi h)]
   have yes:cE m c i=true->(bB (i+1)).all (cE m c)=true:=fun h=>by rw [bn,hI,h];rfl
   have hM:((du c (i+1):Nat):Int)=if ((dA c (i+1):Nat):Int)>(du c i:Int) then ((dA c (i+1):Nat):Int) else (du c i:Int):=by
    rw [show dA c (i+1)=ba c i from rfl];rw [show du c (i+1)=if du c i<ba c i then ba c i else du c i by rw [du]];by_cases hlt:du c i<ba c i
    . rw [if_pos hlt,if_pos (by omega)]
    rw [if_neg hlt,if_neg (by omega)]
   have hrb:dA c i<=i/\dA c (i+1)<=i+1:=by
    refine ⟨?_,(iq c i).2.1⟩;rw [dA];split
    . omega
    have:=(iq c (i-1)).2.1;omega
   have hmb:du c i<=c.length:=by
    have key:∀n,du c n<=n:=fun n=>by
     induction n with
     |zero=>unfold du;omega
     |succ n ih=>rw [du];have:=(iq c n).2.1;split<;>omega
    have:=key i;omega
   have e1:=hel i hi;have gi:=get_some hi;have li:=aG hi;clear hF hI;generalize du c i=M at hM hmb;generalize du c (i+1)=M' at hM;by_cases hi0:0<i
   rotate_left
   . have g3:decide ((i:Int)>0)=false:=by simp;omega
     have hR:dA c i=0/\dA c (i+1)=1:=by
      have e0:i=0:=by omega
      subst e0;exact ⟨rfl,by show ba c 0=1;unfold ba;rfl⟩
     have hs:cE m c i=true:=by
      have e0:i=0:=by omega
      subst e0;rfl
     rw [hR.1,hR.2];rw [hR.2] at hM;clear hR hrb no;have yes:=yes hs;simp -dsimp -implicitDefEqProofs only [pz,bg,bj,aY,↓reduceIte,aP];rw [hM];simp -dsimp -implicitDefEqProofs only [go_sem,li]
     repeat' first
      |(with_reducible refine ai ?_ ?_)
      |(refine ak.draw mixed rfl ?_;try simp -dsimp -implicitDefEqProofs only [go_sem,g3])
     all_goals (first|(refine ⟨?_,?_⟩<;>omega)|(simp;done)|rfl|(simp_all;done)|skip)
   have hi':i-1<c.length:=by omega
   have e2:=hel (i-1) hi';have g2:c[((i:Int)-1).toNat]? =some c[i-1]:=by rw [pred_toNat hi0];exact get_some hi'
   have g3:decide ((i:Int)>0)=true:=by simp;omega
   have hs:cE m c i=decide (fg (c[i]-c[i-1])<=m.step):=by rw [cE,show (i==0)=false by simp;omega];simp [uq4,hi,hi']
   have hR:((dA c (i+1):Nat):Int)=if (c[i]==c[i-1])=true then (dA c i:Int)+1 else 0+1:=by
    obtain ⟨j,rfl⟩:∃j,i=j+1:=⟨i-1,by omega⟩;rw [show dA c (j+1+1)=ba c (j+1) from rfl,show dA c (j+1)=ba c j from rfl,ba];simp only [Nat.add_sub_cancel];have q1:c.getD (j+1) 0=c[j+1]:=by simp [uq4,hi]
    have q2:c.getD j 0=c[j]:=by simp [uq4,show j<c.length by omega]
    rw [q1,q2];by_cases hq:c[j+1]=c[j]
    . rw [if_pos hq,if_pos (by simpa using hq)];simp
    rw [if_neg hq,if_neg (by simpa using hq)];simp
   rw [hs] at no yes;have yes':decide (fg (c[i]-c[i-1])>m.step)=false->(bB (i+1)).all (cE m c)=true:=fun h=>yes (dT (by have:=of_decide_eq_false h;omega));have no':decide (fg (c[i]-c[i-1])>m.step)=true->fault m c=3:=fun h=>no (dF (by have:=oT h;omega));have hab:fg (c[i]-c[i-1])<=7:=by unfold fg;split<;>omega
   have Zg:0<=fg (c[i]-c[i-1]):=by unfold fg;split<;>omega
   generalize dA c i=R at hR hrb;generalize dA c (i+1)=R' at hR hrb hM;clear hs;simp -dsimp -implicitDefEqProofs only [pz,bg,bj,aY,↓reduceIte,aP];rw [hM];clear hM;rw [hR];simp -dsimp -implicitDefEqProofs only [go_sem,li]
   repeat' first
    |(refine Br.intro (fun _=> ?_) (fun _=> ?_)<;>try simp -dsimp -implicitDefEqProofs only [go_sem, *])
    |(with_reducible refine ai ?_ ?_)
    |(refine ak.draw mixed rfl ?_;try simp -dsimp -implicitDefEqProofs only [go_sem,gi,g2,g3])
    |(refine an (F0 _ (by omega)) ?_;try simp -dsimp -implicitDefEqProofs only [go_sem, *])
   all_goals first
    |(rw [←bk];exact yes' (by assumption))
    |(first|omega|(refine ⟨?_,?_⟩<;>omega)|(simp;done)|rfl|(simp_all;done)|skip)
 have hMl:=MB c m.same (by omega) c.length;rw [hI,if_neg (by decide)] at hF;rw [hF];clear hF hel hI;rcases hq:((bB c.length).all fun i=>decide ((ba c i:Int)<=m.same)) with _|_
 all_goals
  rw [hq] at hMl;clear hq;by_cases hk:(bq c c.length:Int)<m.least
 all_goals
  have hk':=hk;first|rw [if_pos hk]|rw [if_neg hk]
  (replace hk':=dT hk');clear hk;simp -dsimp -implicitDefEqProofs only [pz,bg,bj,aY,↓reduceIte,aP];simp -dsimp -implicitDefEqProofs only [go_sem,aC,hMl]
  repeat' first
   |(refine Br.intro (fun _=> ?_) (fun _=> ?_)<;>try simp -dsimp -implicitDefEqProofs only [go_sem, *])
   |(with_reducible refine ai ?_ ?_)
   |(refine ak.draw mixed rfl ?_;try simp -dsimp -implicitDefEqProofs only [go_sem])
   |(refine an (qO c h) ?_;try simp -dsimp -implicitDefEqProofs only [go_sem, *])
  all_goals (first|rfl|(simp_all;omega)|skip)
theorem yw (m:aL) (c:lI) (hm:a6 m=true) (h:c.length<=1048576):Fn pG 90 [kV m,aM c] true (· =eI (fault m c)):=by
 refine Fn.av 55 [.tmp 4] func90 (hv:= ?_);rcases hl:((c.length:Int)==m.ah) with _|_
 . have hF:fault m c=1:=by rw [fault,if_pos (by simpa using hl)]
   rw [hF];simp -dsimp -implicitDefEqProofs only [go_sem];repeat' (refine Br.intro (fun _=> ?_) (fun _=> ?_)<;>try simp -dsimp -implicitDefEqProofs only [go_sem, *])
   all_goals (first|(simp_all;done)|skip)
 have hle:¬(c.length:Int)≠m.ah:=by simpa using hl
 have hc:=IJ m c hm h;rcases ha:(c.all fun x=>bF x 0 (m.aq-1)) with _|_
 . have hF:fault m c=2:=by rw [fault,if_neg hle,if_pos ha]
   rw [ha,hl] at hc;rw [hF];clear hF ha hle;simp -dsimp -implicitDefEqProofs only [go_sem]
   repeat' first
    |(refine Br.intro (fun _=> ?_) (fun _=> ?_)<;>try simp -dsimp -implicitDefEqProofs only [go_sem, *])
    |(refine ab (hc) ?_;try simp -dsimp -implicitDefEqProofs only [go_sem, *])
   all_goals (first|(simp_all;done)|skip)
 have hF:fault m c=if ((bB c.length).all (cE m c))=false then 3 else if ((bB c.length).all fun i=>decide ((ba c i:Int)<=m.same))=false then 4 else if (bq c c.length:Int)<m.least then 5 else 0:=by rw [fault,if_neg hle,if_neg (by simp [ha])]
 rw [ha,hl] at hc;have hel:=Kk hm ha;have hsm:=mS hm;have hkl:=jt c c.length;have hch:2<=c.length/\c.length<=6:=by have:=aO hm;omega
 clear ha hle;simp -dsimp -implicitDefEqProofs only [go_sem]
 repeat' first
  |(refine Br.intro (fun _=> ?_) (fun _=> ?_)<;>try simp -dsimp -implicitDefEqProofs only [go_sem, *])
  |(refine ab (hc) ?_;try simp -dsimp -implicitDefEqProofs only [go_sem, *])
 all_goals try ((simp_all;done))
 clear hl hc;refine ak.up [1,2] [18,32] [] (c.length-1) (fun i=>(bB (i+1)).all (cE m c)) (fun i=>[(5,eI ((i+1:Nat):Int))]) (fun _=>[]) (by simp [cE]) ?_ rfl (fun i hi hI=> ?_) (fun hI=> ?_)
 . simp -dsimp -implicitDefEqProofs only [go_sem];all_goals (first|(simp;done)|skip)
 . have hi1:i+1<c.length:=by omega
   have hi0:i<c.length:=by omega
   have no:cE m c (i+1)=false->fault m c=3:=fun h=>by rw [hF,if_pos (b9 hi1 h)]
   have yes:cE m c (i+1)=true->(bB (i+1+1)).all (cE m c)=true:=fun h=>by rw [bn,hI,h];rfl
   have e1:=hel i hi0;have e2:=hel (i+1) hi1;have g1:=get_some hi1;have g2:c[(((i+1:Nat):Int)-1).toNat]? =some c[i]:=by rw [show (((i+1:Nat):Int)-1).toNat=i by omega];exact get_some hi0
   have li:=aG hi1;have hs:cE m c (i+1)=decide (fg (c[i+1]-c[i])<=m.step):=by rw [cE,show (i+1==0)=false by simp];simp [uq4,hi0,hi1]
   rw [hs] at no yes;have yes':decide (fg (c[i+1]-c[i])>m.step)=false->(bB (i+1+1)).all (cE m c)=true:=fun h=>yes (dT (by have:=of_decide_eq_false h;omega));have no':decide (fg (c[i+1]-c[i])>m.step)=true->fault m c=3:=fun h=>no (dF (by have:=oT h;omega));have hab:fg (c[i+1]-c[i])<=7:=by unfold fg;split<;>omega
   have Zg:0<=fg (c[i+1]-c[i]):=by unfold fg;split<;>omega
   clear hF hI hs;simp -dsimp -implicitDefEqProofs only [pz,bg,bj,aY,↓reduceIte,aP];simp -dsimp -implicitDefEqProofs only [go_sem,li]
   repeat' first
    |(refine Br.intro (fun _=> ?_) (fun _=> ?_)<;>try simp -dsimp -implicitDefEqProofs only [go_sem, *])
    |(with_reducible refine ai ?_ ?_)
    |(refine ak.draw mixed rfl ?_;try simp -dsimp -implicitDefEqProofs only [go_sem,g1,g2])
    |(refine an (ju _ (by omega)) ?_;try simp -dsimp -implicitDefEqProofs only [go_sem, *])
   all_goals first
    |(simp only [bk] at yes' ⊢;exact yes' (by assumption))
    |(first|omega|(refine ⟨?_,?_⟩<;>omega)|(simp;done)|rfl|skip)
 have hcl:c.length-1+1=c.length:=by omega
 rw [hcl] at hI ⊢;rw [hI,if_neg (by decide)] at hF;clear hel hI hcl;simp -dsimp -implicitDefEqProofs only [pz,bg,bj,aY,↓reduceIte,aP];simp -dsimp -implicitDefEqProofs only [go_sem,aC];refine ak.up [1,2,37] [45] [] c.length (fun i=>(bB i).all fun i=>decide ((ba c i:Int)<=m.same)) (fun i=>[(38,eI i)]) (fun _=>[]) (by simp) ?_ rfl (fun i hi hI=> ?_) (fun hI=> ?_)
 . simp -dsimp -implicitDefEqProofs only [go_sem]
 . have no:decide ((ba c i:Int)<=m.same)=false->fault m c=4:=fun h=>by rw [hF,if_pos (b9 (p:=fun i=>decide ((ba c i:Int)<=m.same)) hi h)]
   have yes:decide ((ba c i:Int)<=m.same)=true->((bB (i+1)).all fun i=>decide ((ba c i:Int)<=m.same))=true:=fun h=>by rw [bn,hI,h];rfl
   have yes':decide ((ba c i:Int)>m.same)=false->((bB (i+1)).all fun i=>decide ((ba c i:Int)<=m.same))=true:=fun h=>yes (dT (by have:=of_decide_eq_false h;omega));have no':decide ((ba c i:Int)>m.same)=true->fault m c=4:=fun h=>no (dF (by have:=oT h;omega));have hrl:=(iq c i).2.1;have hcr:=kC (c.take (i+1)) (by simp;omega) (by simp;omega);have hll:(c.take (i+1)).length-1=i:=by simp;omega
   rw [hll,yu c (i+1) i (by omega)] at hcr;have li:=aG hi;have e3:((i:Int)+1).toNat=i+1:=by omega
   clear hF hI no yes hll;simp -dsimp -implicitDefEqProofs only [pz,bg,bj,aY,↓reduceIte,aP];simp -dsimp -implicitDefEqProofs only [go_sem,li]
   repeat' first
    |(refine Br.intro (fun _=> ?_) (fun _=> ?_)<;>try simp -dsimp -implicitDefEqProofs only [go_sem, *])
    |(with_reducible refine ai ?_ ?_)
    |(refine ak.draw mixed rfl ?_;try simp -dsimp -implicitDefEqProofs only [go_sem,e3])
    |(rw [←uq9];refine an hcr ?_;try simp -dsimp -implicitDefEqProofs only [go_sem, *])
   all_goals first
    |(rw [←bk];exact yes' (by assumption))
    |(first|omega|(refine ⟨?_,?_⟩<;>omega)|(simp;done)|rfl|skip)
 rw [hI,if_neg (by decide)] at hF;rw [hF];clear hF hI;by_cases hk:(bq c c.length:Int)<m.least
 all_goals
  have hk':=hk;first|rw [if_pos hk]|rw [if_neg hk]
  (replace hk':=dT hk');clear hk;simp -dsimp -implicitDefEqProofs only [pz,bg,bj,aY,↓reduceIte,aP];simp -dsimp -implicitDefEqProofs only [go_sem,aC]
  repeat' first
   |(refine Br.intro (fun _=> ?_) (fun _=> ?_)<;>try simp -dsimp -implicitDefEqProofs only [go_sem, *])
   |(with_reducible refine ai ?_ ?_)
   |(refine ak.draw mixed rfl ?_;try simp -dsimp -implicitDefEqProofs only [go_sem])
   |(refine an (iE c h) ?_;try simp -dsimp -implicitDefEqProofs only [go_sem, *])
  all_goals (first|rfl|(simp_all;omega)|skip)
def fF (m:aL) (c:lI):Bool:=fault m c==0
theorem De (m:aL) (c:lI) (hm:a6 m=true) (h:c.length<=1048576):Fn pG 76 [kV m,aM c] true (· =eB (fF m c)):=by
 refine Fn.av 9 [.tmp 4] func76 (hv:= ?_);simp -dsimp -implicitDefEqProofs only [go_sem];repeat' (refine ab (yw m c hm h) ?_;try simp -dsimp -implicitDefEqProofs only [go_sem, *])
 all_goals first|rfl|skip
theorem BL (m:aL) (ks:lL) (hm:a6 m=true) (h:ks.length<=1048576) (h2:∀x∈ks,x.length<=1048576):Fn pG 52 [kV m,aR ks] true (· =eB (ks.all (fF m)&&decide ((ks.length:Int)<=300))):=by
 refine Fn.av 22 [.tmp 4] func52 (hv:= ?_);simp -dsimp -implicitDefEqProofs only [go_sem];refine ak.up [1,2] [8,17] [] ks.length (fun i=>(ks.take i).all (fF m)) (fun i=>[(5,eI i)]) (fun _=>[]) (by simp) ?_ rfl (fun i hi hI=> ?_) (fun hI=> ?_)
 . simp -dsimp -implicitDefEqProofs only [go_sem]
 . have gi:=get_some hi;have li:=aG hi;have no:fF m ks[i]=false->ks.all (fF m)=false:=fun h=>gQ hi h;have yes:fF m ks[i]=true->(ks.take (i+1)).all (fF m)=true:=fun h=>by rw [dy _ _ _ hi,hI,h];rfl
   have yes':(fault m ks[i] != 0)=false->(ks.take (i+1)).all (fF m)=true:=fun h=>yes (by simpa [fF] using h);have no':(fault m ks[i] != 0)=true->ks.all (fF m)=false:=fun h=>no (by simpa [fF] using h);have hc:=nG m ks[i] hm (h2 _ (uq6 hi));clear no yes hI;simp -dsimp -implicitDefEqProofs only [pz,bg,bj,aY,↓reduceIte,aP];simp -dsimp -implicitDefEqProofs only [go_sem,li]
   repeat' first
    |(refine Br.intro (fun _=> ?_) (fun _=> ?_)<;>try simp -dsimp -implicitDefEqProofs only [go_sem, *])
    |(with_reducible refine ai ?_ ?_)
    |(refine ak.draw mixed rfl ?_;try simp -dsimp -implicitDefEqProofs only [go_sem,gi])
    |(refine an (hc) ?_;try simp -dsimp -implicitDefEqProofs only [go_sem, *])
   all_goals (first|omega|(refine ⟨?_,?_⟩<;>omega)|(simp;done)|rfl|skip)
 rw [cK] at hI;rw [hI];simp -dsimp -implicitDefEqProofs only [pz,bg,bj,aY,↓reduceIte,aP];simp -dsimp -implicitDefEqProofs only [go_sem,aC]
set_option maxHeartbeats 4000000 in
theorem tz (m:aL) (ks:lL) (hm:a6 m=true) (h:ks.length<=1048576) (h2:∀x∈ks,x.length<=1048576):Fn pG 50 [kV m,aR ks] true (· =eB (ks.all (fF m))):=by
 refine Fn.av 9 [.tmp 4] func50 (hv:= ?_);have zl:(∀i (hi:i<ks.length),fF m ks[i]=true)->ks.all (fF m)=true:=fun h=>uq1.2 fun x hx=>by obtain ⟨i,hi,rfl⟩:=List.getElem_of_mem hx;exact h i hi
 have hno:∀i (hi:i<ks.length),fF m ks[i]=false->ks.all (fF m)=false:=fun i hi h=>gQ hi h;generalize ks.all (fF m)=ok at zl hno;simp -dsimp -implicitDefEqProofs only [go_sem];refine cn 400000 9 [.tmp 4] func74 rfl rfl rfl rfl rfl (by exact oT rfl) ?_;simp -dsimp -implicitDefEqProofs only [go_sem];refine cn 410000 19 [.tmp 4] func89 rfl rfl rfl rfl rfl (by exact oT rfl) ?_;simp -dsimp -implicitDefEqProofs only [go_sem];refine ak.up [0,1,7] [16] [] ks.length (fun i=>∀j (hj:j<ks.length),j<i->fF m ks[j]=true) (fun i=>[(8,eI i)]) (fun _=>[]) (fun j _ h=>absurd h (Nat.not_lt_zero _)) ?_ rfl (fun i hi hI=> ?_) (fun hI=> ?_)
 . simp -dsimp -implicitDefEqProofs only [go_sem]
 . have gi:=get_some hi;have li:=aG hi;have hc:=De m ks[i] hm (h2 _ (uq6 hi));rcases hv:fF m ks[i] with _|_
   . rw [hv] at hc;have hn:=hno i hi hv;clear hno zl hI hv;subst hn;simp -dsimp -implicitDefEqProofs only [pz,bg,bj,aY,↓reduceIte,aP];simp -dsimp -implicitDefEqProofs only [go_sem,gi,li];refine ⟨⟨by omega,by omega⟩,?_⟩;refine cn 420000 8 [.tmp 3] func75 rfl rfl rfl rfl rfl (by exact oT rfl) ?_;simp -dsimp -implicitDefEqProofs only [go_sem];repeat' (refine ab (hc) ?_;try simp -dsimp -implicitDefEqProofs only [go_sem, *])
     (all_goals try first|exact rfl|(simp;done))
   rw [hv] at hc;have hI':∀j (hj:j<ks.length),j<i+1->fF m ks[j]=true:=fun j hj h=>by
    by_cases hji:j=i
    . subst hji;exact hv
    exact hI j hj (by omega)
   clear hno zl hI hv;simp -dsimp -implicitDefEqProofs only [pz,bg,bj,aY,↓reduceIte,aP];simp -dsimp -implicitDefEqProofs only [go_sem,gi,li];refine ⟨⟨by omega,by omega⟩,?_⟩;refine cn 420000 8 [.tmp 3] func75 rfl rfl rfl rfl rfl (by exact oT rfl) ?_;simp -dsimp -implicitDefEqProofs only [go_sem]
   repeat' first
    |(with_reducible refine ai ?_ ?_)
    |(refine ab (hc) ?_;try simp -dsimp -implicitDefEqProofs only [go_sem, *])
   (all_goals try first|omega|(refine ⟨?_,?_⟩<;>omega)|exact rfl|(simp;done))
 have hn:=zl fun j hj=>hI j hj hj;clear hno zl hI;subst hn;simp -dsimp -implicitDefEqProofs only [pz,bg,bj,aY,↓reduceIte,aP];simp -dsimp -implicitDefEqProofs only [go_sem,aC];(all_goals try first|exact rfl|(simp;done))
def gR (m:aL) (a k:lL):Bool:=a6 m&&(((a.length:Int)==0)||iJ a)&&((k.length:Int)==(a.length:Int))&&k.all (fF m)
abbrev Xv (m:aL) (a k:lL):AV:=.agg [eI m.ah,eI m.aq,eI m.step,eI m.same,eI m.least,aR a,aR k]
theorem MC (m:aL) (a k:lL) (h:a.length<=1048576) (h2:∀x∈a,x.length<=1048576) (h3:k.length<=1048576) (h4:∀x∈k,x.length<=1048576):Fn pG 23 [Xv m a k] true (· =eB (gR m a k)):=by
 refine Fn.av 33 [.tmp 2] func23 (hv:= ?_);rcases hm:a6 m with _|_
 . have hF:gR m a k=false:=by rw [gR,hm];rfl
   rw [hF];simp -dsimp -implicitDefEqProofs only [go_sem];repeat' (refine ab (eR m) ?_;try simp -dsimp -implicitDefEqProofs only [go_sem, *])
 have hF:gR m a k=((((a.length:Int)==0)||iJ a)&&((k.length:Int)==(a.length:Int))&&k.all (fF m)):=by rw [gR,hm];rfl
 rw [hF];clear hF;simp -dsimp -implicitDefEqProofs only [go_sem]
 repeat' first
  |(refine Br.intro (fun _=> ?_) (fun _=> ?_)<;>try simp -dsimp -implicitDefEqProofs only [go_sem, *])
  |(refine ab (eR m) ?_;try simp -dsimp -implicitDefEqProofs only [go_sem, *])
  |(refine ab (qL a h h2) ?_;try simp -dsimp -implicitDefEqProofs only [go_sem, *])
  |(refine ab (tz m k hm h3 h4) ?_;try simp -dsimp -implicitDefEqProofs only [go_sem, *])
theorem MD (m:aL) (a k:lL) (h:a.length<=1048576) (h2:∀x∈a,x.length<=1048576) (h3:k.length<=1048576) (h4:∀x∈k,x.length<=1048576):Fn pG 24 [Xv m a k] true (· =eB (gR m a k)):=by
 refine Fn.av 33 [.tmp 2] func24 (hv:= ?_);rcases hm:a6 m with _|_
 . have hF:gR m a k=false:=by rw [gR,hm];rfl
   rw [hF];simp -dsimp -implicitDefEqProofs only [go_sem];repeat' (refine ab (fE m) ?_;try simp -dsimp -implicitDefEqProofs only [go_sem, *])
 have hF:gR m a k=((((a.length:Int)==0)||iJ a)&&((k.length:Int)==(a.length:Int))&&k.all (fF m)):=by rw [gR,hm];rfl
 rw [hF];have hq:iJ a=true->a.length<=10:=fun h=>(mR h).2.1;clear hF;simp -dsimp -implicitDefEqProofs only [go_sem]
 repeat' first
  |(refine Br.intro (fun _=> ?_) (fun _=> ?_)<;>try simp -dsimp -implicitDefEqProofs only [go_sem, *])
  |(refine ab (fE m) ?_;try simp -dsimp -implicitDefEqProofs only [go_sem, *])
  |(refine ab (qM a h h2) ?_;try simp -dsimp -implicitDefEqProofs only [go_sem, *])
  |(refine ab (BL m k hm h3 h4) ?_;try simp -dsimp -implicitDefEqProofs only [go_sem, *])
 all_goals first
  |(rename_i hA hB
    have hA':(k.length:Int)=a.length:=by simpa [bne] using hA
    rcases cX:k.all (fF m) with _|_
    . simp
    rw [cX,Bool.true_and] at hB;have hB':¬(k.length:Int)<=300:=by simpa using hB
    have h1:iJ a=false:=by rw [Bool.eq_false_iff];intro hh;have:=hq hh;omega
    have h0:((a.length:Int)==0)=false:=by rw [beq_eq_false_iff_ne];omega
    rw [h1,h0];rfl)
  |(first|(simp_all;done)|skip)
def j5 (keys:lL) (i:Nat) (d:Nat):Bool:=keys.any fun k=>k.getD i 0==(d:Int)
def jH (m:aL) (keys:lL) (i:Nat):lI:=vJ (j5 keys i) m.aq.toNat
def km (m:aL) (keys:lL) (n:Nat):lL:=(bB n).map (jH m keys)
theorem BM (m:aL) (keys:lL) (n:Nat):km m keys (n+1)=km m keys n++[jH m keys n]:=by simp [km,bk]
theorem BN (m:aL) (keys:lL):km m keys 0=[]:=rfl
theorem oZ (m:aL) (keys:lL) (n:Nat):(km m keys n).length=n:=by simp [km]
theorem F1 (m:aL) (keys:lL) (i:Nat):(jH m keys i).length<=m.aq.toNat:=pL _ _
theorem ME (m:aL) (keys:lL) (n:Nat):∀x∈km m keys n,x.length<=m.aq.toNat:=fun x hx=>by simp only [km,List.mem_map] at hx;obtain ⟨i,_,rfl⟩:=hx;exact F1 _ _ _
theorem yx:∀{xs ys:lI},xs.Pairwise (· < ·)->ys.Pairwise (· < ·)->(∀x,x∈xs↔x∈ys)->xs=ys
 | [],[],_,_,_=>rfl
 | [],y::ys,_,_,h=>absurd ((h y).2 (bW ..)) (by simp)
 |x::xs,[],_,_,h=>absurd ((h x).1 (bW ..)) (by simp)
 |x::xs,y::ys,h1,h2,h=>by
  obtain ⟨g1,g2⟩:=List.pairwise_cons.1 h1;obtain ⟨k1,k2⟩:=List.pairwise_cons.1 h2;have e:x=y:=by
   rcases List.mem_cons.1 ((h x).1 (bW ..)) with e|e
   . exact e
   rcases List.mem_cons.1 ((h y).2 (bW ..)) with e'|e'
   . exact e'.symm
   have:=k1 x e;have:=g1 y e';omega
  subst e
  have hr:∀z,z∈xs↔z∈ys:=fun z=>⟨fun hz=>by
   rcases List.mem_cons.1 ((h z).1 (List.mem_cons_of_mem _ hz)) with e|e
   . have:=g1 z hz;omega
   . exact e,fun hz=>by
   rcases List.mem_cons.1 ((h z).2 (List.mem_cons_of_mem _ hz)) with e|e
   . have:=k1 z hz;omega
   exact e⟩
  rw [yx g2 k2 hr]
theorem sC (p:Nat->Bool):∀n,(vJ p n).Pairwise (· < ·)
 |0=>by rw [oW];exact List.Pairwise.nil
 |n+1=>by
  rw [mQ];split
  . refine List.pairwise_append.2 ⟨sC p n,List.pairwise_singleton ..,fun a ha b hb=> ?_⟩;obtain ⟨j,hj,rfl,_⟩:=sw ha;simp only [bQ] at hb;omega
  exact sC p n
theorem qP {p:Nat->Bool} {n j:Nat} (hj:j<n) (hp:p j=true):(j:Int)∈vJ p n:=by
 induction n with
 |zero=>omega
 |succ n ih=>
  rw [mQ];by_cases e:j=n
  . subst e;rw [if_pos hp];simp
  have:=ih (by omega);split
  . exact List.mem_append_left _ this
  exact this
theorem MF {xs:lI} {p:Nat->Bool} {D:Nat} (h:∀x∈xs,∃j:Nat,j<D/\x=(j:Int)) (hp:∀j,j<D->(p j=true↔(j:Int)∈xs)):vg xs=vJ p D:=by
 refine yx (IF xs) (sC p D) fun x=> ?_;rw [My];constructor
 . intro hx;obtain ⟨j,hj,rfl⟩:=h x hx;exact qP hj ((hp j hj).2 hx)
 intro hx;obtain ⟨j,hj,rfl,h2⟩:=sw hx;exact (hp j hj).1 h2
theorem IK {m:aL} {keys:lL} {i:Nat} (h:∀k∈keys,0<=k.getD i 0/\k.getD i 0<m.aq):vg (keys.map fun k=>k.getD i 0)=jH m keys i:=by
 refine MF (fun x hx=> ?_) fun j _=> ?_
 . obtain ⟨k,hk,rfl⟩:=List.mem_map.1 hx;have:=h k hk;exact ⟨(k.getD i 0).toNat,by omega,by omega⟩
 simp only [j5,List.any_eq_true,List.mem_map,beq_iff_eq]
def jv (t ae:lL) (k:Nat):Nat->lL
 |0=>[]
 |i+1=>if ((t.getD i []).getD k 0==1)=true then jv t ae k i++[ae.getD i []] else jv t ae k i
theorem MG (t ae:lL) (k:Nat):jv t ae k 0=[]:=rfl
theorem gJ (t ae:lL) (k i:Nat):jv t ae k (i+1)=if ((t.getD i []).getD k 0==1)=true then jv t ae k i++[ae.getD i []] else jv t ae k i:=rfl
theorem sE (t ae:lL) (k:Nat):∀i,(jv t ae k i).length<=i
 |0=>cH _
 |i+1=>by
  have:=sE t ae k i;rw [gJ];split
  . simp;omega
  omega
theorem yy {t ae:lL} {k:Nat}:∀{i:Nat},i<=ae.length->∀x∈jv t ae k i,x∈ae
 |0,_,x,hx=>by cases hx
 |i+1,hi,x,hx=>by
  have ih:=yy (t:=t) (ae:=ae) (k:=k) (i:=i) (by omega);rw [gJ] at hx;split at hx
  . rcases dD.1 hx with h|h
    . exact ih x h
    simp only [bQ] at h;subst h;rw [uq4,uq5 (by omega)];exact uq6 _
  exact ih x hx
def bT (m:aL) (t ae:lL) (k:Nat):lL:=km m (jv t ae k ae.length) m.ah.toNat
theorem kW (m:aL) (t ae:lL) (k:Nat):(bT m t ae k).length=m.ah.toNat:=oZ _ _ _
theorem iF (m:aL) (t ae:lL) (k:Nat):∀x∈bT m t ae k,x.length<=m.aq.toNat:=ME _ _ _
def aA (m:aL) (t ae:lL) (n:Nat):List lL:=(bB n).map (bT m t ae)
theorem sF (m:aL) (t ae:lL):aA m t ae 0=[]:=rfl
theorem sG (m:aL) (t ae:lL) (n:Nat):aA m t ae (n+1)=aA m t ae n++[bT m t ae n]:=by simp [aA,bk]
theorem dO (m:aL) (t ae:lL) (n:Nat):(aA m t ae n).length=n:=by simp [aA]
theorem jT (m:aL) (t ae:lL) {n k:Nat} (h:k<n):(aA m t ae n)[k]? =some (bT m t ae k):=by simp [aA,h]
def dX (l:lL) (c:lI):Bool:=(bB c.length).all fun i=>has (l.getD i []) (c.getD i 0)
def od (m:aL) (t ae:lL) (i:Nat):Nat->lL
 |0=>[]
 |k+1=>if (((t.getD i []).getD k 0==0)&&dX (bT m t ae k) (ae.getD i []))=true then od m t ae i k++[[(i:Int),(k:Int)]] else od m t ae i k
theorem BO (m:aL) (t ae:lL) (i:Nat):od m t ae i 0=[]:=rfl
theorem pM (m:aL) (t ae:lL) (i k:Nat):od m t ae i (k+1)=if (((t.getD i []).getD k 0==0)&&dX (bT m t ae k) (ae.getD i []))=true then od m t ae i k++[[(i:Int),(k:Int)]] else od m t ae i k:=rfl
theorem sH (m:aL) (t ae:lL) (i:Nat):∀k,(od m t ae i k).length<=k
 |0=>cH _
 |k+1=>by
  have:=sH m t ae i k;rw [pM];split
  . simp;omega
  omega
def jU (m:aL) (t ae:lL):Nat->lL
 |0=>[]
 |i+1=>jU m t ae i++od m t ae i (t.getD 0 []).length
theorem yz (m:aL) (t ae:lL):jU m t ae 0=[]:=rfl
theorem nH (m:aL) (t ae:lL) (i:Nat):jU m t ae (i+1)=jU m t ae i++od m t ae i (t.getD 0 []).length:=rfl
theorem kD (m:aL) (t ae:lL):∀i,(jU m t ae i).length<=i*(t.getD 0 []).length
 |0=>Nat.zero_le _
 |i+1=>by have:=kD m t ae i;have:=sH m t ae i (t.getD 0 []).length;rw [nH,uq7,Nat.succ_mul];omega
def gS (m:aL) (t ae:lL):lL:=jU m t ae ae.length
def dY (m:aL) (t ae:lL):Bool:=(ae.length==t.length)&&ae.all (fF m)
def bY (m:aL) (t ae:lL):Int:=if eV m t then (if dY m t ae then 0 else 2) else 1
def bm (m:aL) (t ae:lL):Bool:=eV m t&&dY m t ae&&(gS m t ae).isEmpty
abbrev pX (ls:List lL):AV:=.arr ⟨1,true⟩ (ls.map sy)
theorem a8 {α β:Type} (f:α->β) (l:List α) (n:Nat) (h:l.length<=n):(l.map f).take n=l.map f:=cP (by simpa using h)
theorem MH (m:aL) (keys:lL) (hm:a6 m=true) (h0:keys.length<=1048576) (hk3:∀k∈keys,(k.length:Int)=m.ah):
 Fn pG 244 [kV m,aR keys] false (· =sy (km m keys m.ah.toNat)):=by
 have ⟨⟨n1,n2⟩,n3,n4⟩:=aO hm;refine Fn.cg 54 [.cell 4 121] func244 (hv:= ?_);simp -dsimp -implicitDefEqProofs only [go_sem];refine ak.up [1,2,4] [18,27,46,47,50,51] [11] m.ah.toNat (fun _=>True) (fun i=>[(6,eI i),(5,.ref 11 0 0 i)]) (fun i=>[(11,.row 0 ⟨1,false⟩ (i==0) ((km m keys i).map aM))]) trivial ?_ rfl (fun i hi _=> ?_) (fun _=> ?_)
 . simp -dsimp -implicitDefEqProofs only [go_sem,BN]
 . have hlt:decide ((i:Int)<m.ah)=true:=dT (by omega);have hhl:=oZ m keys i;rw [BM];unfold jH;generalize km m keys i=H at*;simp -dsimp -implicitDefEqProofs only [pz,bg,bj,aY,↓reduceIte,aP];simp -dsimp -implicitDefEqProofs only [go_sem,hlt];refine ak.up [1,2,4,5,6] [27,46,47] [18] m.aq.toNat (fun _=>True) (fun d=>[(8,eI d),(7,.ref 18 0 0 (vJ (j5 keys i) d).length)]) (fun d=>[(18,.row 0 ⟨1,false⟩ true ((vJ (j5 keys i) d).map eI))]) trivial ?_ rfl (fun d hd _=> ?_) (fun _=> ?_)
   . simp -dsimp -implicitDefEqProofs only [go_sem,oW]
   . have Wz:decide ((d:Int)<m.aq)=true:=dT (by omega);have hfl:=pL (j5 keys i) d;rw [mQ];have X8:j5 keys i d=(keys.take keys.length).any fun x=>x.getD i 0==(d:Int):=by rw [cK];rfl
     rw [X8];clear X8;generalize vJ (j5 keys i) d=F at*;simp -dsimp -implicitDefEqProofs only [pz,bg,bj,aY,↓reduceIte,aP];simp -dsimp -implicitDefEqProofs only [go_sem,Wz];refine ak.up [1,2,4,5,6,7,8] [27] [] keys.length (fun _=>True) (fun k=>[(10,eI k),(9,eB ((keys.take k).any fun x=>x.getD i 0==(d:Int)))]) (fun _=>[]) trivial ?_ rfl (fun k hk' _=> ?_) (fun _=> ?_)
     . simp -dsimp -implicitDefEqProofs only [go_sem];exact rfl
     . have hkl:i<keys[k].length:=by have:=hk3 _ (uq6 hk');omega
       have gk:=get_some hk';have gi:=get_some hkl;have hgd:keys[k].getD i 0=keys[k][i]:=by simp [uq4,hkl]
       rw [yq _ _ _ hk',hgd];have lk:=aG hk';generalize keys[k]=x at*;generalize x[i]=z at*;generalize ((keys.take k).any fun x=>x.getD i 0==(d:Int))=b at*;simp -dsimp -implicitDefEqProofs only [pz,bg,bj,aY,↓reduceIte,aP];cases b<;>simp -dsimp -implicitDefEqProofs only [go_sem,lk,gk,gi]
       . exact ⟨⟨by omega,by omega⟩,⟨by omega,by omega⟩,⟨by omega,by omega⟩,rfl⟩
       exact ⟨⟨by omega,by omega⟩,rfl⟩
     generalize ((keys.take keys.length).any fun x=>x.getD i 0==(d:Int))=b at*;simp -dsimp -implicitDefEqProofs only [pz,bg,bj,aY,↓reduceIte,aP];cases b<;>simp -dsimp -implicitDefEqProofs only [go_sem,aC]
     . exact ⟨⟨by omega,by omega⟩,rfl⟩
     exact ⟨by omega,⟨by omega,by omega⟩,rfl,by simp⟩
   have Wz:decide (((m.aq.toNat:Nat):Int)<m.aq)=false:=dF (by omega);have hfl:=pL (j5 keys i) m.aq.toNat;generalize vJ (j5 keys i) m.aq.toNat=F at*;have htk:bR F.length (uq8 eI F)=uq8 eI F:=cP (by simp);have Rg:bR i (uq8 aM H)=uq8 aM H:=cP (by simp;omega);have e2:uq8 aM (H++[F])=uq8 aM H++[aM F]:=by simp
   have e0:(i+1==0)=false:=rfl;simp -dsimp -implicitDefEqProofs only [pz,bg,bj,aY,↓reduceIte,aP];simp -dsimp -implicitDefEqProofs only [go_sem,Wz];refine .inr ⟨by omega,by omega,(by cases i with|zero=>exact .inr rfl|succ i=>exact .inl rfl),⟨by omega,by omega⟩,rfl,?_⟩;rw [e0,e2];simp -dsimp -implicitDefEqProofs only [go_sem,Rg]
 have hlt:decide (((m.ah.toNat:Nat):Int)<m.ah)=false:=dF (by omega);have hhl:=oZ m keys m.ah.toNat;generalize km m keys m.ah.toNat=H at*;have htk:=a8 aM H m.ah.toNat (by omega);simp -dsimp -implicitDefEqProofs only [pz,bg,bj,aY,↓reduceIte,aP];simp -dsimp -implicitDefEqProofs only [go_sem,hlt];((with_reducible and_intros);all_goals try (omega));all_goals rw [htk]
theorem MI (m:aL) (t ae:lL) (k:Nat) (hm:a6 m=true) (h0:ae.length<=1048576) (h1:ae.length<=t.length) (hk:∀i (hi:i<t.length),k<t[i].length) (hc:∀x∈ae,(x.length:Int)=m.ah):
 Fn pG 195 [jR m t,aR ae,eI k] false (· =sy (bT m t ae k)):=by
 refine Fn.cg 36 [.cell 6 121] func195 (hv:= ?_);simp -dsimp -implicitDefEqProofs only [go_sem];refine ak.up [1,2,3,6] [12,30,31] [9] ae.length (fun _=>True) (fun i=>[(8,eI i),(7,.ref 9 0 0 (jv t ae k i).length)]) (fun i=>[(9,.row 0 ⟨1,false⟩ (jv t ae k i).isEmpty ((jv t ae k i).map aM))]) trivial ?_ rfl (fun i hi _=> ?_) (fun _=> ?_)
 . simp -dsimp -implicitDefEqProofs only [go_sem,MG,List.isEmpty_nil]
 . have hit:i<t.length:=by omega
   have hki:=hk i hit;have gi:=get_some hit;have gk:=get_some hki;have gc:=get_some hi;have li:=aG hi;have hp:(t.getD i []).getD k 0=t[i][k]:=by simp [uq4,hit,hki]
   have hcd:ae.getD i []=ae[i]:=by simp [uq4,hi]
   have hon:=sE t ae k i;rw [gJ,hp,hcd];generalize jv t ae k i=F at*;generalize t[i][k]=z at*;generalize ae[i]=c at*;have htk:=a8 aM F F.length (cH _);have e2:uq8 aM (F++[c])=uq8 aM F++[aM c]:=by simp
   have e0:(F++[c]).isEmpty=false:=by simp
   have e1:(F++[c]).length=F.length+1:=by simp
   simp -dsimp -implicitDefEqProofs only [pz,bg,bj,aY,↓reduceIte,aP];rcases hz:(z==1) with _|_
   . simp -dsimp -implicitDefEqProofs only [go_sem,li,gi,gk,hz];((with_reducible and_intros);all_goals try first|omega|(refine ⟨?_,?_⟩<;>omega)|exact rfl)
   simp only [if_true];simp -dsimp -implicitDefEqProofs only [go_sem,li,gi,gk,gc,hz];((with_reducible and_intros);all_goals try (omega));refine .inr ⟨by omega,(by cases F with|nil=>exact .inr rfl|cons=>exact .inl rfl),⟨by omega,by omega⟩,?_⟩;rw [e0,e2];simp -dsimp -implicitDefEqProofs only [go_sem];exact rfl
 have hon:=sE t ae k ae.length;have hmm:∀x∈jv t ae k ae.length,(x.length:Int)=m.ah:=fun x hx=>hc x (yy (cH _) x hx);have hq:=MH m (jv t ae k ae.length) hm (by omega) hmm;unfold bT;generalize jv t ae k ae.length=F at*;have htk:=a8 aM F F.length (cH _);simp -dsimp -implicitDefEqProofs only [pz,bg,bj,aY,↓reduceIte,aP];simp -dsimp -implicitDefEqProofs only [go_sem,aC];refine kQ 9 0 ⟨1,false⟩ F.isEmpty (uq8 aM F) hq (by decide) ?_ ?_ fun r hr=> ?_
 . simp -dsimp -implicitDefEqProofs only [go_sem]
 . refine sn ?_ rfl ?_
   . simp -dsimp -implicitDefEqProofs only [go_sem]
   have h:=mO (l:=9) (v:=0) (sh:=⟨1,false⟩) (ys:=uq8 aM F) (xs:=[]) (r:=[]) 0 F.length (by simp) trivial;rw [uq3,htk] at h;exact h
 subst hr;simp -dsimp -implicitDefEqProofs only [go_sem]
theorem kX (m:aL) (t ae:lL) (hm:a6 m=true) (h0:ae.length<=1048576) (h1:ae.length<=t.length) (h2:0<t.length) (hk:∀i (hi:i<t.length),t[i].length=(t.getD 0 []).length) (hd:(t.getD 0 []).length<=1048576) (hc:∀x∈ae,(x.length:Int)=m.ah):
 Fn pG 145 [jR m t,aR ae] false (· =pX (aA m t ae (t.getD 0 []).length)):=by
 refine Fn.cg 25 [.tmp 4] func145 (hv:= ?_);have g0:=get_some h2;have hg:t.getD 0 []=t[0]:=by simp [uq4,h2]
 rw [hg] at hk hd ⊢;simp -dsimp -implicitDefEqProofs only [go_sem];refine ak.up [1,2] [13,21,22,23] [7] t[0].length (fun _=>True) (fun i=>[(6,eI i),(5,.ref 7 0 0 i)]) (fun i=>[(7,.row 0 ⟨1,true⟩ (i==0) ((aA m t ae i).map sy))]) trivial ?_ rfl (fun i hi _=> ?_) (fun _=> ?_)
 . simp -dsimp -implicitDefEqProofs only [go_sem,sF]
 . have hq:=MI m t ae i hm h0 h1 (fun j hj=>by rw [hk j hj];exact hi) hc;have hll:=dO m t ae i;have li:=aG hi;rw [sG];generalize aA m t ae i=F at*;generalize bT m t ae i=L at*;have htk:=a8 sy F i (by omega);have e0:(i+1==0)=false:=rfl;have e2:uq8 sy (F++[L])=uq8 sy F++[sy L]:=by simp
   simp -dsimp -implicitDefEqProofs only [pz,bg,bj,aY,↓reduceIte,aP];simp -dsimp -implicitDefEqProofs only [go_sem,g0,li];refine ⟨by omega,?_⟩;refine ax (hq) (by simp [ay,ao,au,aH]) ?_;simp -dsimp -implicitDefEqProofs only [go_sem];refine .inr ⟨by omega,by omega,(by cases i with|zero=>exact .inr rfl|succ i=>exact .inl rfl),⟨by omega,by omega⟩,rfl,?_⟩;rw [e0,e2];simp -dsimp -implicitDefEqProofs only [go_sem,htk]
 have hll:=dO m t ae t[0].length;generalize aA m t ae t[0].length=F at*;have htk:=a8 sy F t[0].length (by omega);simp -dsimp -implicitDefEqProofs only [pz,bg,bj,aY,↓reduceIte,aP];simp -dsimp -implicitDefEqProofs only [go_sem,g0,aC];((with_reducible and_intros);all_goals try (omega));all_goals rw [htk]
theorem qQ (l:lL) (c:lI) (h0:c.length<=l.length) (h1:l.length<=1048576) (h2:∀x∈l,x.length<=1048576):Fn pG 191 [sy l,aM c] true (· =eB (dX l c)):=by
 refine Fn.av 23 [.tmp 4] func191 (hv:= ?_);simp -dsimp -implicitDefEqProofs only [go_sem];refine ak.up [1,2] [8,21] [] c.length (fun i=>((bB i).all fun i=>has (l.getD i []) (c.getD i 0))=true) (fun i=>[(5,eI i)]) (fun _=>[]) rfl ?_ rfl (fun i hi hI=> ?_) (fun hI=> ?_)
 . simp -dsimp -implicitDefEqProofs only [go_sem]
 . have gi:=get_some (show i<l.length by omega);have gc:=get_some hi;have li:=aG hi;have hp:has (l.getD i []) (c.getD i 0)=has l[i] c[i]:=by simp [uq4,hi,show i<l.length by omega]
   have hq:=FV l[i] c[i] (h2 _ (uq6 _));have no:has l[i] c[i]=false->dX l c=false:=fun h=>b9 hi (by rw [hp];exact h);have yes:has l[i] c[i]=true->((bB (i+1)).all fun i=>has (l.getD i []) (c.getD i 0))=true:=fun h=>by rw [bn,hI,hp,h];rfl
   clear hp hI;generalize l[i]=x at*;generalize c[i]=z at*;simp -dsimp -implicitDefEqProofs only [pz,bg,bj,aY,↓reduceIte,aP];simp -dsimp -implicitDefEqProofs only [go_sem,li];refine ak.draw mixed rfl ?_;simp -dsimp -implicitDefEqProofs only [go_sem,gi,gc];((with_reducible and_intros);all_goals try (omega));refine an hq ?_;simp -dsimp -implicitDefEqProofs only [go_sem];refine ⟨by exact rfl,?_⟩;rcases hb:has x z with _|_
   . rw [no hb];simp -dsimp -implicitDefEqProofs only [go_sem]
   simp -dsimp -implicitDefEqProofs only [go_sem];refine ⟨⟨by omega,by omega⟩,?_,rfl⟩;rw [←bk];exact yes hb
 simp -dsimp -implicitDefEqProofs only [pz,bg,bj,aY,↓reduceIte,aP];simp -dsimp -implicitDefEqProofs only [go_sem,aC];rw [show dX l c=true from hI]
theorem qR (m:aL) (t ae:lL) (hm:a6 m=true) (h0:ae.length<=1000) (h1:ae.length<=t.length) (h2:0<t.length) (hk:∀i (hi:i<t.length),t[i].length=(t.getD 0 []).length) (hd:(t.getD 0 []).length<=1000) (hc:∀x∈ae,(x.length:Int)=m.ah):
 Fn pG 140 [jR m t,aR ae] false (· =aR (gS m t ae)):=by
 have ⟨⟨n1,n2⟩,n3,n4⟩:=aO hm;refine Fn.cg 52 [.tmp 4] func140 (hv:= ?_);have hq:=kX m t ae hm (by omega) h1 h2 hk (by omega) hc;simp -dsimp -implicitDefEqProofs only [go_sem];refine ax (hq) (by simp [ay,ao,au,aH]) ?_;clear hq;simp -dsimp -implicitDefEqProofs only [go_sem];have hll:=dO m t ae (t.getD 0 []).length;refine ak.up [1,2,5] [15,21,43,48,49,50] [12] ae.length (fun _=>True) (fun i=>[(7,eI i),(6,.ref 12 0 0 (jU m t ae i).length)]) (fun i=>[(12,.row 0 ⟨1,false⟩ (jU m t ae i).isEmpty ((jU m t ae i).map aM))]) trivial ?_ rfl (fun i hi _=> ?_) (fun _=> ?_)
 . simp -dsimp -implicitDefEqProofs only [go_sem,yz,List.isEmpty_nil]
 . have hfl:=kD m t ae i;have li:=aG hi;have hmul:i*(t.getD 0 []).length<=1000*1000:=Nat.mul_le_mul (by omega) hd;rw [nH];generalize jU m t ae i=H at*;simp -dsimp -implicitDefEqProofs only [pz,bg,bj,aY,↓reduceIte,aP];simp -dsimp -implicitDefEqProofs only [go_sem,li];refine ak.up [1,2,5,7] [21,43,48,49,50] [12] (t.getD 0 []).length (fun _=>True) (fun k=>[(8,eI k),(6,.ref 12 0 0 (H++od m t ae i k).length)]) (fun k=>[(12,.row 0 ⟨1,false⟩ (H++od m t ae i k).isEmpty ((H++od m t ae i k).map aM))]) trivial ?_ rfl (fun k hk' _=> ?_) (fun _=> ?_)
   . simp -dsimp -implicitDefEqProofs only [go_sem,BO,List.append_nil]
   . have hit:i<t.length:=by omega
     have hki:k<t[i].length:=by rw [hk i hit];exact hk'
     have gi:=get_some hit;have gk:=get_some hki;have gc:=get_some hi;have gl:=jT m t ae hk';have hp:(t.getD i []).getD k 0=t[i][k]:=by simp [uq4,hit,hki]
     have hcd:ae.getD i []=ae[i]:=by simp [uq4,hi]
     have hfk:=sH m t ae i k;have hL:=kW m t ae k;have hcl:=hc _ (uq6 hi);have hop:=qQ (bT m t ae k) ae[i] (by omega) (by omega) (fun x hx=>by have:=iF m t ae k x hx;omega);rw [pM,hp,hcd];generalize od m t ae i k=F at*;generalize bT m t ae k=L at*;generalize aA m t ae (t.getD 0 []).length=LS at*;have lk:decide ((k:Int)<(LS.length:Int))=true:=dT (by omega);generalize t[i][k]=z at*;generalize ae[i]=c at*;generalize Zh:dX L c=ob at*;have hG:(H++F).length<=1001000:=by rw [uq7];omega
     have e9:∀x:lI,H++(F++[x])=(H++F)++[x]:=fun x=>by simp
     simp only [e9,apply_ite (fun l=>H++l)];generalize H++F=G at*;have htk:=a8 aM G G.length (cH _);have e0:(G++[[(i:Int),(k:Int)]]).isEmpty=false:=by simp
     have e1:(G++[[(i:Int),(k:Int)]]).length=G.length+1:=by simp
     have e2:uq8 aM (G++[[(i:Int),(k:Int)]])=uq8 aM G++[aM [(i:Int),(k:Int)]]:=by simp
     simp -dsimp -implicitDefEqProofs only [pz,bg,bj,aY,↓reduceIte,aP];rcases hz:(z==0) with _|_
     . simp -dsimp -implicitDefEqProofs only [go_sem,lk];refine ak.draw mixed rfl ?_;simp -dsimp -implicitDefEqProofs only [go_sem,gi,gk,hz];((with_reducible and_intros);all_goals try first|omega|(refine ⟨?_,?_⟩<;>omega)|exact rfl)
     simp -dsimp -implicitDefEqProofs only [go_sem,lk];refine ak.draw mixed rfl ?_;simp -dsimp -implicitDefEqProofs only [go_sem,gi,gk,gc,gl,hz];((with_reducible and_intros);all_goals try (omega));refine an hop ?_;cases ob with
     |false=>
      simp -dsimp -implicitDefEqProofs only [go_sem];((with_reducible and_intros);all_goals try first|(refine ⟨?_,?_⟩<;>omega)|exact rfl)
     |true=>
      simp -dsimp -implicitDefEqProofs only [go_sem];refine ⟨by exact rfl,?_⟩;refine .inr ⟨by omega,(by cases G with|nil=>exact .inr rfl|cons=>exact .inl rfl),⟨by omega,by omega⟩,rfl,?_⟩;rw [e0,e2];simp -dsimp -implicitDefEqProofs only [go_sem];all_goals first|exact rfl|skip
   simp -dsimp -implicitDefEqProofs only [pz,bg,bj,aY,↓reduceIte,aP];simp -dsimp -implicitDefEqProofs only [go_sem,hll,aC];((with_reducible and_intros);all_goals try first|(refine ⟨?_,?_⟩<;>omega)|exact rfl)
 have hfl:=kD m t ae ae.length;unfold gS;generalize jU m t ae ae.length=F at*;have htk:=a8 aM F F.length (cH _);simp -dsimp -implicitDefEqProofs only [pz,bg,bj,aY,↓reduceIte,aP];simp -dsimp -implicitDefEqProofs only [go_sem,aC];all_goals rw [htk]
theorem Df (l:lL) (c:lI) (h0:c.length<=l.length) (h1:l.length<=1048576) (h2:∀x∈l,x.length<=1048576):Fn pG 221 [sy l,aM c] true (· =eB (dX l c)):=by
 refine Fn.av 23 [.tmp 4] func221 (hv:= ?_);simp -dsimp -implicitDefEqProofs only [go_sem];refine ak.up [2,7,8] [20] [] c.length (fun i=>((bB i).all fun i=>has (l.getD i []) (c.getD i 0))=true) (fun i=>[(9,eI i)]) (fun _=>[]) rfl ?_ rfl (fun i hi hI=> ?_) (fun hI=> ?_)
 . simp -dsimp -implicitDefEqProofs only [go_sem]
 . have gi:=get_some (show i<l.length by omega);have gc:=get_some hi;have li:=aG hi;have hp:has (l.getD i []) (c.getD i 0)=has l[i] c[i]:=by simp [uq4,hi,show i<l.length by omega]
   have hq:=qK l[i] c[i] (h2 _ (uq6 _));have no:has l[i] c[i]=false->dX l c=false:=fun h=>b9 hi (by rw [hp];exact h);have yes:has l[i] c[i]=true->((bB (i+1)).all fun i=>has (l.getD i []) (c.getD i 0))=true:=fun h=>by rw [bn,hI,hp,h];rfl
   clear hp hI;generalize l[i]=x at*;generalize c[i]=z at*;simp -dsimp -implicitDefEqProofs only [pz,bg,bj,aY,↓reduceIte,aP];simp -dsimp -implicitDefEqProofs only [go_sem,gi,gc,li];((with_reducible and_intros);all_goals try (omega));refine ab hq ?_;rcases hb:has x z with _|_
   . rw [no hb];simp -dsimp -implicitDefEqProofs only [go_sem]
   simp -dsimp -implicitDefEqProofs only [go_sem];refine ⟨⟨by omega,by omega⟩,?_,rfl⟩;rw [←bk];exact yes hb
 simp -dsimp -implicitDefEqProofs only [pz,bg,bj,aY,↓reduceIte,aP];simp -dsimp -implicitDefEqProofs only [go_sem,aC];rw [show dX l c=true from hI]
theorem Kl (k:lL) (i:Nat):∀n,n<=k.length->((k.take n).map fun x=>x.getD i 0).length=n:=fun n h=>by simp [h]
theorem Qb (m:aL) (keys:lL) (hm:a6 m=true) (h0:keys.length<=1048576) (hk3:∀k∈keys,(k.length:Int)=m.ah/\∀x∈k,0<=x/\x<m.aq):
 Fn pG 214 [kV m,aR keys] false (· =sy (km m keys m.ah.toNat)):=by
 have ⟨⟨n1,n2⟩,n3,n4⟩:=aO hm;refine Fn.cg 42 [.cell 4 121] func214 (hv:= ?_);simp -dsimp -implicitDefEqProofs only [go_sem];refine ak.up [1,4,5,12] [16,18,28,29,32,36,37,38] [5,38] m.ah.toNat (fun _=>True) (fun i=>[(13,eI i)]) (fun i=>[(5,.box 0 [.ref 38 0 0 i]),(38,.row 0 ⟨1,false⟩ (i==0) ((km m keys i).map aM))]) trivial ?_ rfl (fun i hi _=> ?_) (fun _=> ?_)
 . simp -dsimp -implicitDefEqProofs only [go_sem,BN]
 . have hlt:decide ((i:Int)<m.ah)=true:=dT (by omega);have hhl:=oZ m keys i
   have Nz:=IK (m:=m) (keys:=keys) (i:=i) (fun k hk=>by
    obtain ⟨h1,h2⟩:=hk3 k hk;have hil:i<k.length:=by omega
    rw [show k.getD i 0=k[i] by simp [uq4,hil]]
    exact h2 _ (uq6 hil))
   rw [BM,←Nz];clear Nz;generalize km m keys i=H at*;simp -dsimp -implicitDefEqProofs only [pz,bg,bj,aY,↓reduceIte,aP];simp -dsimp -implicitDefEqProofs only [go_sem,hlt];refine ak.up [1,4,5,6,12,13,17,18] [28,29] [16] keys.length (fun _=>True) (fun k=>[(19,eI k),(7,.ref 16 0 0 k)]) (fun k=>[(16,.row 0 ⟨1,false⟩ true (((keys.take k).map fun x=>x.getD i 0).map eI))]) trivial ?_ rfl (fun k hk' _=> ?_) (fun _=> ?_)
   . simp -dsimp -implicitDefEqProofs only [go_sem,cf,List.map_nil]
   . have hkl:i<keys[k].length:=by have:=(hk3 _ (uq6 hk')).1;omega
     have gk:=get_some hk';have gi:=get_some hkl;have lk:=aG hk';have hgd:keys[k].getD i 0=keys[k][i]:=by simp [uq4,hkl]
     have ht:(keys.take (k+1)).map (fun x=>x.getD i 0)=(keys.take k).map (fun x=>x.getD i 0)++[keys[k][i]]:=by rw [jd hk',List.map_append,List.map_singleton,hgd]
     have hln:=Kl keys i k (by omega);rw [ht];clear ht hgd;generalize (keys.take k).map (fun x=>x.getD i 0)=F at*;generalize keys[k]=x at*;generalize x[i]=z at*;have htk:=a8 eI F k (by omega);simp -dsimp -implicitDefEqProofs only [pz,bg,bj,aY,↓reduceIte,aP];simp -dsimp -implicitDefEqProofs only [go_sem,lk,gk,gi,htk];((with_reducible and_intros);all_goals try first|omega|(refine ⟨?_,?_⟩<;>omega)|exact rfl);all_goals first|(simp;done)|skip
   have hln:=Kl keys i keys.length (cH _);have hr:vg (keys.map fun k=>k.getD i 0)=Lib.compact (((keys.take keys.length).map fun k=>k.getD i 0).mergeSort fun x y=>decide (x<=y)):=by rw [cK,P5]
   rw [hr];clear hr;generalize (keys.take keys.length).map (fun x=>x.getD i 0)=F at*;simp -dsimp -implicitDefEqProofs only [pz,bg,bj,aY,↓reduceIte,aP];simp -dsimp -implicitDefEqProofs only [go_sem,aC];refine ⟨by omega,?_⟩;refine mE [16] ?_;simp -dsimp -implicitDefEqProofs only [go_sem];rw [←hln];refine nq (Tk 0 F (by omega)) ?_;simp -dsimp -implicitDefEqProofs only [go_sem];refine ak.draw mixed rfl ?_;have hle:(F.mergeSort fun x y=>decide (x<=y)).length=F.length:=List.length_mergeSort _;have hcl:=jS (F.mergeSort fun x y=>decide (x<=y));simp -dsimp -implicitDefEqProofs only [go_sem];refine ⟨by omega,?_⟩;refine IG (zs:=F.mergeSort fun x y=>decide (x<=y)) ?_ hle.symm (by omega) ?_
   . simp -dsimp -implicitDefEqProofs only [go_sem]
   generalize Lib.compact (F.mergeSort fun x y=>decide (x<=y))=C at*;have e0:(i+1==0)=false:=rfl;have e2:uq8 aM (H++[C])=uq8 aM H++[aM C]:=by simp
   have htk:=a8 aM H i (by omega);have htC:bR C.length (uq8 eI (C++List.replicate ((F.mergeSort fun x y=>decide (x<=y)).length-C.length) 0))=uq8 eI C:=by rw [←uq9];simp
   simp -dsimp -implicitDefEqProofs only [go_sem,htC];refine ⟨by omega,.inr ⟨by omega,by omega,(by cases i with|zero=>exact .inr rfl|succ i=>exact .inl rfl),by exact rfl,⟨by omega,by omega⟩,rfl,?_⟩⟩;rw [e0,e2];simp -dsimp -implicitDefEqProofs only [go_sem,htk]
 have hlt:decide (((m.ah.toNat:Nat):Int)<m.ah)=false:=dF (by omega);have hhl:=oZ m keys m.ah.toNat;generalize km m keys m.ah.toNat=H at*;have htk:=a8 aM H m.ah.toNat (by omega);simp -dsimp -implicitDefEqProofs only [pz,bg,bj,aY,↓reduceIte,aP];simp -dsimp -implicitDefEqProofs only [go_sem,hlt];((with_reducible and_intros);all_goals try (omega));all_goals rw [htk]
def jj (ae:lL) (rs:lI):Nat->lL
 |0=>[]
 |j+1=>if decide (rs.getD j 0<(ae.length:Int))=true then jj ae rs j++[ae.getD (rs.getD j 0).toNat []] else jj ae rs j
theorem IL (ae:lL) (rs:lI):jj ae rs 0=[]:=rfl
theorem kY (ae:lL) (rs:lI) (j:Nat):jj ae rs (j+1)=if decide (rs.getD j 0<(ae.length:Int))=true then jj ae rs j++[ae.getD (rs.getD j 0).toNat []] else jj ae rs j:=rfl
theorem BP (ae:lL) (rs:lI):∀j,(jj ae rs j).length<=j
 |0=>cH _
 |j+1=>by
  have:=BP ae rs j;rw [kY];split
  . simp;omega
  omega
theorem MJ (ae:lL) (rs:lI) (x:Int):jj ae (rs++[x]) (rs++[x]).length=if decide (x<(ae.length:Int))=true then jj ae rs rs.length++[ae.getD x.toNat []] else jj ae rs rs.length:=by
 have key:∀j,j<=rs.length->jj ae (rs++[x]) j=jj ae rs j:=by
  intro j;induction j with
  |zero=>intro _;rfl
  |succ j ih=>
   intro hj;have:(rs++[x]).getD j 0=rs.getD j 0:=by simp [uq4,List.getElem?_append_left (show j<rs.length by omega)]
   rw [kY,kY,ih (by omega),this]
 have e:(rs++[x]).length=rs.length+1:=by simp
 have hx:(rs++[x]).getD rs.length 0=x:=by simp [uq4]
 rw [e,kY,key _ (cH _),hx]
theorem yA (t ae:lL) (k:Nat):∀n,n<=t.length->jj ae (vJ (fun i=>(t.getD i []).getD k 0==1) n) (vJ (fun i=>(t.getD i []).getD k 0==1) n).length=jv t ae k (min n ae.length)
 |0,_=>by rw [oW,Nat.zero_min];rfl
 |n+1,hn=>by
  have ih:=yA t ae k n (by omega);rw [mQ];split
  . rename_i h;rw [MJ,ih];by_cases hc:n<ae.length
    . rw [if_pos (dT (by omega)),show min (n+1) ae.length=n+1 by omega,show min n ae.length=n by omega,gJ,if_pos h];rfl
    rw [if_neg (by simp;omega),show min (n+1) ae.length=min n ae.length by omega]
  rename_i h;rw [ih];by_cases hc:n<ae.length
  . rw [show min (n+1) ae.length=n+1 by omega,show min n ae.length=n by omega,gJ,if_neg h]
  rw [show min (n+1) ae.length=min n ae.length by omega]
theorem MK {t ae:lL} (h:ae.length<=t.length) (k:Nat):jj ae (js t k) (js t k).length=jv t ae k ae.length:=by
 have:=yA t ae k t.length (cH _)
 rwa [show min t.length ae.length=ae.length by omega] at this
theorem IM {t:lL} {k j:Nat} (h:j<(js t k).length):0<=(js t k)[j]:=by have h1:(js t k)[j]∈js t k:=uq6 h;obtain ⟨i,_,e,_⟩:=sw (p:=fun i=>(t.getD i []).getD k 0==1) (i:=t.length) h1;omega
theorem IN (t:lL) (k:Nat):(js t k).length<=t.length:=pL _ _
theorem gv (m:aL) (t ae:lL) (hm:a6 m=true) (h0:t.length<=1000) (h1:ae.length<=t.length) (h2:0<t.length) (hk:∀i (hi:i<t.length),t[i].length=(t.getD 0 []).length) (hd:(t.getD 0 []).length<=1000) (hc:∀x∈ae,(x.length:Int)=m.ah/\∀y∈x,0<=y/\y<m.aq):
 Fn pG 162 [jR m t,aR ae] false (· =pX (aA m t ae (t.getD 0 []).length)):=by
 refine Fn.cg 49 [.tmp 4] func162 (hv:= ?_);have g0:=get_some h2;have hg:t.getD 0 []=t[0]:=by simp [uq4,h2]
 rw [hg] at hk hd ⊢;simp -dsimp -implicitDefEqProofs only [go_sem,g0];refine ⟨by omega,?_⟩;refine ak.up [1,2,15] [19,22,23,30,37,38,44,45,46] [10] t[0].length (fun _=>True) (fun i=>[(16,eI i),(5,.ref 10 0 0 i)]) (fun i=>[(10,.row 0 ⟨1,true⟩ (i==0) ((aA m t ae i).map sy))]) trivial ?_ rfl (fun i hi _=> ?_) (fun _=> ?_)
 . simp -dsimp -implicitDefEqProofs only [go_sem,sF]
 . have hrf:=BK m t i (by omega) (fun j hj=>by rw [hk j hj];exact hi);have hll:=dO m t ae i;have li:=aG hi;have hrl:=IN t i;have hrg:=fun j (h:j<(js t i).length)=>IM h;have hon:=sE t ae i ae.length;have hmm:∀x∈jv t ae i ae.length,(x.length:Int)=m.ah/\∀y∈x,0<=y/\y<m.aq:=fun x hx=>hc x (yy (cH _) x hx);have hq:=Qb m (jv t ae i ae.length) hm (by omega) hmm;have cX:=MK h1 i;rw [sG];unfold bT;generalize aA m t ae i=F at*;have htk:=a8 sy F i (by omega);have e0:(i+1==0)=false:=rfl;have e2:∀L:lL,uq8 sy (F++[L])=uq8 sy F++[sy L]:=fun L=>by simp
   generalize jv t ae i ae.length=K at*;simp -dsimp -implicitDefEqProofs only [pz,bg,bj,aY,↓reduceIte,aP];simp -dsimp -implicitDefEqProofs only [go_sem,li];refine ab hrf ?_;clear hrf;generalize js t i=R at*;simp -dsimp -implicitDefEqProofs only [go_sem];refine ak.up [1,2,5,15,16,22,23] [30,37,38] [19] R.length (fun _=>True) (fun j=>[(24,eI j),(7,.ref 19 0 0 (jj ae R j).length)]) (fun j=>[(19,.row 0 ⟨1,false⟩ (jj ae R j).isEmpty ((jj ae R j).map aM))]) trivial ?_ rfl (fun j hj _=> ?_) (fun _=> ?_)
   . simp -dsimp -implicitDefEqProofs only [go_sem,IL,List.isEmpty_nil]
   . have lj:=aG hj;have gj:=get_some hj;have hgd:R.getD j 0=R[j]:=by simp [uq4,hj]
     have hcl:=BP ae R j;have hr0:=hrg j hj;rw [kY,hgd];generalize jj ae R j=G at*;generalize R[j]=z at*;have htG:=a8 aM G G.length (cH _);simp -dsimp -implicitDefEqProofs only [pz,bg,bj,aY,↓reduceIte,aP];rcases hz:decide (z<(ae.length:Int)) with _|_
     . simp -dsimp -implicitDefEqProofs only [go_sem,lj,gj,hz];((with_reducible and_intros);all_goals try first|omega|(refine ⟨?_,?_⟩<;>omega)|exact rfl)
     have hzl:z.toNat<ae.length:=by have:=oT hz;omega
     have gz:=get_some hzl;have hcd:ae.getD z.toNat []=ae[z.toNat]:=by simp [uq4,hzl]
     simp only [if_true];rw [hcd];generalize ae[z.toNat]=c at*;have f0:(G++[c]).isEmpty=false:=by simp
     have f2:uq8 aM (G++[c])=uq8 aM G++[aM c]:=by simp
     simp -dsimp -implicitDefEqProofs only [go_sem,lj,gj,gz,hz];refine ⟨⟨by omega,by omega⟩,⟨by omega,by omega⟩,?_⟩;refine .inr ⟨by omega,(by cases G with|nil=>exact .inr rfl|cons=>exact .inl rfl),⟨by omega,by omega⟩,?_⟩;rw [f0,f2];simp -dsimp -implicitDefEqProofs only [go_sem];exact rfl
   rw [cX];have htK:=a8 aM K K.length (cH _);simp -dsimp -implicitDefEqProofs only [pz,bg,bj,aY,↓reduceIte,aP];simp -dsimp -implicitDefEqProofs only [go_sem,aC];refine kQ 19 0 ⟨1,false⟩ K.isEmpty (uq8 aM K) hq (by decide) ?_ ?_ fun r hr=> ?_
   . simp -dsimp -implicitDefEqProofs only [go_sem]
   . refine sn ?_ rfl ?_
     . simp -dsimp -implicitDefEqProofs only [go_sem]
     have h:=mO (l:=19) (v:=0) (sh:=⟨1,false⟩) (ys:=uq8 aM K) (xs:=[]) (r:=[]) 0 K.length (by simp) trivial;rw [uq3,htK] at h;exact h
   subst hr;generalize km m K m.ah.toNat=L at*;simp -dsimp -implicitDefEqProofs only [go_sem];refine .inr ⟨by omega,by omega,(by cases i with|zero=>exact .inr rfl|succ i=>exact .inl rfl),⟨by omega,by omega⟩,rfl,?_⟩;rw [e0,e2];simp -dsimp -implicitDefEqProofs only [go_sem,htk]
 have hll:=dO m t ae t[0].length;generalize aA m t ae t[0].length=F at*;have htk:=a8 sy F t[0].length (by omega);simp -dsimp -implicitDefEqProofs only [pz,bg,bj,aY,↓reduceIte,aP];simp -dsimp -implicitDefEqProofs only [go_sem,aC];((with_reducible and_intros);all_goals try (omega));all_goals rw [htk]
theorem nI (m:aL) (t ae:lL) (hm:a6 m=true) (h0:t.length<=1000) (h1:ae.length<=t.length) (h2:0<t.length) (hk:∀i (hi:i<t.length),t[i].length=(t.getD 0 []).length) (hd:(t.getD 0 []).length<=1000) (hc:∀x∈ae,(x.length:Int)=m.ah/\∀y∈x,0<=y/\y<m.aq):
 Fn pG 231 [jR m t,aR ae] false (· =aR (gS m t ae)):=by
 have ⟨⟨n1,n2⟩,n3,n4⟩:=aO hm;refine Fn.cg 52 [.tmp 4] func231 (hv:= ?_);have hq:=gv m t ae hm h0 h1 h2 hk hd hc;simp -dsimp -implicitDefEqProofs only [go_sem];refine ax (hq) (by simp [ay,ao,au,aH]) ?_;clear hq;simp -dsimp -implicitDefEqProofs only [go_sem];have hll:=dO m t ae (t.getD 0 []).length;refine ak.up [2,6,15,16] [10,23,41,46,47,48] [11] ae.length (fun _=>True) (fun i=>[(17,eI i),(5,.ref 11 0 0 (jU m t ae i).length)]) (fun i=>[(11,.row 0 ⟨1,false⟩ (jU m t ae i).isEmpty ((jU m t ae i).map aM))]) trivial ?_ rfl (fun i hi _=> ?_) (fun _=> ?_)
 . simp -dsimp -implicitDefEqProofs only [go_sem,yz,List.isEmpty_nil]
 . have hfl:=kD m t ae i;have li:=aG hi;have gc:=get_some hi;have hmul:i*(t.getD 0 []).length<=1000*1000:=Nat.mul_le_mul (by omega) hd;rw [nH];generalize jU m t ae i=H at*;simp -dsimp -implicitDefEqProofs only [pz,bg,bj,aY,↓reduceIte,aP];simp -dsimp -implicitDefEqProofs only [go_sem,li,gc];refine ⟨by omega,?_⟩;refine ak.up [2,6,7,8,15,16,17,22,23] [10,41,46,47,48] [11] (t.getD 0 []).length (fun _=>True) (fun k=>[(24,eI k),(5,.ref 11 0 0 (H++od m t ae i k).length)]) (fun k=>[(11,.row 0 ⟨1,false⟩ (H++od m t ae i k).isEmpty ((H++od m t ae i k).map aM))]) trivial ?_ rfl (fun k hk' _=> ?_) (fun _=> ?_)
   . simp -dsimp -implicitDefEqProofs only [go_sem,BO,List.append_nil]
   . have hit:i<t.length:=by omega
     have hki:k<t[i].length:=by rw [hk i hit];exact hk'
     have gi:=get_some hit;have gk:=get_some hki;have gl:=jT m t ae hk';have hp:(t.getD i []).getD k 0=t[i][k]:=by simp [uq4,hit,hki]
     have hcd:ae.getD i []=ae[i]:=by simp [uq4,hi]
     have hfk:=sH m t ae i k;have hL:=kW m t ae k;have hcl:=(hc _ (uq6 hi)).1;have hop:=Df (bT m t ae k) ae[i] (by omega) (by omega) (fun x hx=>by have:=iF m t ae k x hx;omega);rw [pM,hp,hcd];generalize od m t ae i k=F at*;generalize bT m t ae k=L at*;generalize aA m t ae (t.getD 0 []).length=LS at*;have lk:decide ((k:Int)<(LS.length:Int))=true:=dT (by omega);generalize t[i][k]=z at*;generalize ae[i]=c at*;generalize Zh:dX L c=ob at*;have hG:(H++F).length<=1001000:=by rw [uq7];omega
     have e9:∀x:lI,H++(F++[x])=(H++F)++[x]:=fun x=>by simp
     simp only [e9,apply_ite (fun l=>H++l)];generalize H++F=G at*;have htk:=a8 aM G G.length (cH _);have e0:(G++[[(i:Int),(k:Int)]]).isEmpty=false:=by simp
     have e2:uq8 aM (G++[[(i:Int),(k:Int)]])=uq8 aM G++[aM [(i:Int),(k:Int)]]:=by simp
     simp -dsimp -implicitDefEqProofs only [pz,bg,bj,aY,↓reduceIte,aP];rcases hz:(z==0) with _|_
     . simp -dsimp -implicitDefEqProofs only [go_sem,gi,gk,gl,lk,hz];((with_reducible and_intros);all_goals try first|omega|(refine ⟨?_,?_⟩<;>omega)|exact rfl)
     simp -dsimp -implicitDefEqProofs only [go_sem,gi,gk,gl,lk,hz];((with_reducible and_intros);all_goals try (omega));refine ab hop ?_;cases ob with
     |false=>
      simp -dsimp -implicitDefEqProofs only [go_sem];((with_reducible and_intros);all_goals try first|(refine ⟨?_,?_⟩<;>omega)|exact rfl)
     |true=>
      simp -dsimp -implicitDefEqProofs only [go_sem];refine .inr ⟨by omega,(by cases G with|nil=>exact .inr rfl|cons=>exact .inl rfl),⟨by omega,by omega⟩,rfl,?_⟩;rw [e0,e2];simp -dsimp -implicitDefEqProofs only [go_sem];all_goals first|exact rfl|skip
   simp -dsimp -implicitDefEqProofs only [pz,bg,bj,aY,↓reduceIte,aP];simp -dsimp -implicitDefEqProofs only [go_sem,hll,aC];((with_reducible and_intros);all_goals try first|(refine ⟨?_,?_⟩<;>omega)|exact rfl)
 have hfl:=kD m t ae ae.length;unfold gS;generalize jU m t ae ae.length=F at*;have htk:=a8 aM F F.length (cH _);simp -dsimp -implicitDefEqProofs only [pz,bg,bj,aY,↓reduceIte,aP];simp -dsimp -implicitDefEqProofs only [go_sem,aC];all_goals rw [htk]
structure KS (σ:Type) where
 af:Nat
 zs:lI
 s:σ
def eJ {τ:Type} (f:Nat->τ->τ × Bool) (t:τ):Nat->τ × Bool
 |0=>(t,true)
 |i+1=>if (eJ f t i).2=true then f i (eJ f t i).1 else eJ f t i
theorem iX {τ:Type} {f:Nat->τ->τ × Bool} {t:τ} {i:Nat} (h:(eJ f t i).2=true):eJ f t (i+1)=f i (eJ f t i).1:=by rw [eJ,if_pos h]
theorem o1 {τ:Type} {f:Nat->τ->τ × Bool} {t:τ} {i:Nat} (h:(eJ f t i).2=false):∀j,i<=j->eJ f t j=eJ f t i:=by
 intro j hj;induction j with
 |zero=>rw [show i=0 by omega]
 |succ j ih=>
  by_cases e:i=j+1
  . rw [e]
  have:=ih (by omega);rw [eJ,this,if_neg (by rw [h];exact fun e=>by cases e)]
def bH {σ:Type} (f:σ->lI->σ × Bool):σ->lL->σ × Bool
 |s,[]=>(s,true)
 |s,k::r=>if (f s k).2=true then bH f (f s k).1 r else f s k
theorem qn {σ:Type} {f:σ->lI->σ × Bool}:∀(a b:lL) (s:σ),bH f s (a++b)=if (bH f s a).2=true then bH f (bH f s a).1 b else bH f s a
 | [],b,s=>by simp [bH]
 |k::a,b,s=>by
  simp only [List.cons_append,bH];by_cases h:(f s k).2=true
  . simp only [h,if_true];exact qn a b _
  have h':(f s k).2=false:=by simpa using h
  simp [h']
def bP (m:aL) (c:lI) (d:Int):Bool:=c.isEmpty||decide (fg (d-c.getD (c.length-1) 0)<=m.step)
def gb (m:aL) (c:lI) (d:Int):Bool:=decide ((ba (c++[d]) c.length:Int)<=m.same)
def bc (m:aL):Nat->lI->lL
 |0,c=>if (bq c c.length:Int)<m.least then [] else [c]
 |n+1,c=>(bB m.aq.toNat).flatMap fun (d:Nat)=>if (bP m c (d:Int)&&gb m c (d:Int))=true then bc m n (c++[(d:Int)]) else []
def bt {σ:Type} (m:aL) (f:σ->lI->σ × Bool):Nat->lI->KS σ->KS σ × Bool
 |0,c,t=>if (bq c c.length:Int)<m.least then (t,true) else (⟨t.af,t.zs,(f t.s c).1⟩,(f t.s c).2)
 |n+1,c,t=>eJ (fun (d:Nat) t=>if bP m c d=true then if gb m c d=true then bt m f n (c++[(d:Int)]) ⟨t.af+1,t.zs.take c.length++[(d:Int)],t.s⟩ else (⟨t.af+1,t.zs.take c.length++[(d:Int)],t.s⟩,true) else (t,true)) t m.aq.toNat
def aX {σ:Type} (m:aL) (f:σ->lI->σ × Bool) (n:Nat) (c:lI) (d:Nat) (t:KS σ):KS σ × Bool:=
 if bP m c d=true then if gb m c d=true then bt m f n (c++[(d:Int)]) ⟨t.af+1,t.zs.take c.length++[(d:Int)],t.s⟩ else (⟨t.af+1,t.zs.take c.length++[(d:Int)],t.s⟩,true) else (t,true)
theorem dS {σ:Type} (m:aL) (f:σ->lI->σ × Bool) (n:Nat) (c:lI) (t:KS σ):bt m f (n+1) c t=eJ (aX m f n c) t m.aq.toNat:=rfl
def DS {σ:Type} (c:lI) (t:KS σ):Prop:=t.zs.take c.length=c/\c.length<=t.zs.length
theorem sI {σ:Type} {c:lI} {t:KS σ} (h:DS c t) (d:Int):DS (c++[d]) (⟨t.af+1,t.zs.take c.length++[d],t.s⟩:KS σ):=by
 refine ⟨?_,?_⟩
 . show (t.zs.take c.length++[d]).take (c++[d]).length=_;rw [h.1];exact cK
 show (c++[d]).length<=(t.zs.take c.length++[d]).length;rw [h.1];exact cH _
theorem sJ {σ:Type} {c:lI} {d:Int} {t:KS σ} (h:DS (c++[d]) t):DS c t:=by
 have h2:c.length<=t.zs.length:=by have:=h.2;simp at this;omega
 refine ⟨?_,h2⟩;have:=congrArg (bR c.length) h.1;simp only [List.take_take] at this;rw [show min c.length (c++[d]).length=c.length by simp] at this;rw [this];simp
theorem iG {σ:Type} (m:aL) (f:σ->lI->σ × Bool):∀(n:Nat) (c:lI) (t:KS σ),DS c t->DS c (bt m f n c t).1/\(bt m f n c t).1.s=(bH f t.s (bc m n c)).1/\(bt m f n c t).2=(bH f t.s (bc m n c)).2
 |0,c,t,h=>by
  simp only [bt,bc];split
  . exact ⟨h,rfl,rfl⟩
  refine ⟨h,?_,?_⟩
  . simp only [bH];split<;>rfl
  simp only [bH];split<;>simp_all
 |n+1,c,t,h=>by
  rw [dS,bc];generalize m.aq.toNat=D;induction D with
  |zero=>exact ⟨h,rfl,rfl⟩
  |succ D ih=>
   obtain ⟨i1,i2,i3⟩:=ih;rw [bk,List.flatMap_append,qn];rw [←i3];by_cases hb:(eJ (aX m f n c) t D).2=true
   . rw [iX hb,if_pos hb,←i2];generalize (eJ (aX m f n c) t D).1=u at i1;simp only [List.flatMap_cons,List.flatMap_nil,List.append_nil,aX];by_cases h1:bP m c D=true
     . by_cases h2:gb m c D=true
       . rw [if_pos h1,if_pos h2,if_pos (by rw [h1,h2];rfl)];have:=iG m f n (c++[(D:Int)]) ⟨u.af+1,u.zs.take c.length++[(D:Int)],u.s⟩ (sI i1 D);exact ⟨sJ this.1,this.2.1,this.2.2⟩
       rw [if_pos h1,if_neg h2,if_neg (by simp [h2])];exact ⟨sJ (sI i1 D),rfl,rfl⟩
     rw [if_neg h1,if_neg (by simp [h1])];exact ⟨i1,rfl,rfl⟩
   rw [eJ,if_neg hb,if_neg hb];exact ⟨i1,i2,by simpa using i3⟩
theorem pN {σ:Type} {m:aL} {f:σ->lI->σ × Bool} {n:Nat} {c:lI} {t:KS σ} (h:DS c t):∀D,DS c (eJ (aX m f n c) t D).1
 |0=>h
 |D+1=>by
  have i1:=pN h D (m:=m) (f:=f) (n:=n);by_cases hb:(eJ (aX m f n c) t D).2=true
  . rw [iX hb];generalize (eJ (aX m f n c) t D).1=u at i1;simp only [aX];by_cases h1:bP m c D=true
    . by_cases h2:gb m c D=true
      . rw [if_pos h1,if_pos h2];exact sJ (iG m f n (c++[(D:Int)]) ⟨u.af+1,u.zs.take c.length++[(D:Int)],u.s⟩ (sI i1 D)).1
      rw [if_pos h1,if_neg h2];exact sJ (sI i1 D)
    rw [if_neg h1];exact i1
  rw [eJ,if_neg hb];exact i1
theorem ko (m:aL) (hm:a6 m=true):∀(n:Nat) (c:lI),(bc m n c).length<=8^n
 |0,c=>by simp only [bc];split<;>simp
 |n+1,c=>by
  have hd:m.aq.toNat<=8:=by have:=aO hm;omega
  have:∀D,((bB D).flatMap fun (d:Nat)=>if (bP m c (d:Int)&&gb m c (d:Int))=true then bc m n (c++[(d:Int)]) else []).length<=D*8^n:=by
   intro D;induction D with
   |zero=>simp
   |succ D ih=>
    rw [bk,List.flatMap_append,uq7,Nat.succ_mul];refine Nat.add_le_add ih ?_;simp only [List.flatMap_cons,List.flatMap_nil,List.append_nil];split
    . exact ko m hm n _
    exact Nat.zero_le _
  rw [bc,Nat.pow_succ,Nat.mul_comm (8^n) 8];exact Nat.le_trans (this _) (Nat.mul_le_mul_right _ hd)
theorem nJ (m:aL):∀(n:Nat) (c k:lI),k∈bc m n c->k.take c.length=c/\k.length=c.length+n
 |0,c,k,h=>by
  simp only [bc] at h;split at h
  . cases h
  simp at h;subst h;simp
 |n+1,c,k,h=>by
  simp only [bc,List.mem_flatMap,cr] at h;obtain ⟨d,_,h⟩:=h;split at h
  . have:=nJ m n _ k h;have h1:=congrArg (bR c.length) this.1;simp only [List.take_take] at h1;rw [show min c.length (c++[(d:Int)]).length=c.length by simp] at h1;refine ⟨by rw [h1];simp,by rw [this.2];simp;omega⟩
  cases h
theorem vY {m:aL} (hm:a6 m=true) {f:Int->lI->Int × Bool} {n:Nat} {c:lI} (hc:∀(c':lI) (t:KS Int),t.s<=(bt m f n c' t).1.s/\(bt m f n c' t).1.s<=t.s+8^n) (t:KS Int):
 ∀D:Nat,t.s<=(eJ (aX m f n c) t D).1.s/\(eJ (aX m f n c) t D).1.s<=t.s+D*8^n
 |0=>by simp [eJ]
 |D+1=>by
  have ih:=vY hm hc t D (c:=c);have hp:(0:Int)<=8^n:=Int.pow_nonneg (by decide);have e:((D+1:Nat):Int)*8^n=(D:Int)*8^n+8^n:=by rw [Int.natCast_add,Int.add_mul];simp
  rw [e];by_cases hb:(eJ (aX m f n c) t D).2=true
  . rw [iX hb];generalize (eJ (aX m f n c) t D).1=u at ih;simp only [aX];split
    . split
      . have:=hc (c++[(D:Int)]) ⟨u.af+1,u.zs.take c.length++[(D:Int)],u.s⟩;simp only at this;omega
      simp only;omega
    simp only;omega
  rw [eJ,if_neg hb];omega
theorem yB {m:aL} (hm:a6 m=true) {f:Int->lI->Int × Bool} (hf:∀s k,s<=(f s k).1/\(f s k).1<=s+1):∀(n:Nat) (c:lI) (t:KS Int),t.s<=(bt m f n c t).1.s/\(bt m f n c t).1.s<=t.s+8^n
 |0,c,t=>by
  simp only [bt];have:=hf t.s c;split<;>simp<;>omega
 |n+1,c,t=>by
  have hd:m.aq.toNat<=8:=by have:=aO hm;omega
  have:=vY hm (yB hm hf n) t m.aq.toNat (c:=c);have hp:(0:Int)<=8^n:=Int.pow_nonneg (by decide);have h2:(m.aq.toNat:Int)*8^n<=8*8^n:=Int.mul_le_mul_of_nonneg_right (by omega) hp;have h3:(8:Int)^(n+1)=8*8^n:=by rw [Int.pow_succ,Int.mul_comm]
  rw [dS,h3];omega
def fK (s:Int) (_:lI):Int × Bool:=(s+1,true)
def cB (key:lI) (s:Int) (k:lI):Int × Bool:=if k=key then (s,false) else (s+1,true)
theorem BQ:∀(ks:lL) (s:Int),bH fK s ks=(s+ks.length,true)
 | [],s=>by simp [bH]
 |k::r,s=>by show bH fK (s+1) r=_;rw [BQ r];simp;omega
theorem yC {key:lI}:∀(a b:lL) (s:Int),key∉a->bH (cB key) s (a++key::b)=(s+a.length,false)
 | [],b,s,_=>by simp [bH,cB]
 |k::a,b,s,h=>by
  have h1:k≠key:=fun e=>h (by simp [e]);have h2:cB key s k=(s+1,true):=by simp [cB,h1]
  rw [List.cons_append,bH,h2];show bH (cB key) (s+1) _=_;rw [yC a b (s+1) fun hh=>h (List.mem_cons_of_mem _ hh)];simp;omega
def fh (m:aL) (c:lI):Bool:=(bB c.length).all fun i=>decide ((ba c i:Int)<=m.same)&&cE m c i
theorem vj {m:aL} {c:lI} {d:Int} {i:Nat} (h:i<c.length):cE m (c++[d]) i=cE m c i:=by
 have g:∀j,j<c.length->(c++[d]).getD j 0=c.getD j 0:=fun j hj=>by simp [uq4,List.getElem?_append_left hj]
 unfold cE;rw [g i h,g (i-1) (by omega)]
theorem BT {c:lI} {d:Int} {i:Nat} (h:i<c.length):ba (c++[d]) i=ba c i:=by have:=yu (c++[d]) c.length i h;simp at this;exact this.symm
theorem jx (m:aL) (c:lI) (d:Int):fh m (c++[d])=(fh m c&&(bP m c d&&gb m c d)):=by
 have h1:(bB c.length).all (fun i=>decide ((ba (c++[d]) i:Int)<=m.same)&&cE m (c++[d]) i)=fh m c:=by
  unfold fh;rw [Bool.eq_iff_iff,uq1,uq1];constructor
  . intro h i hi;have:=h i hi
    rwa [BT (cr.1 hi),vj (cr.1 hi)] at this
  intro h i hi;rw [BT (cr.1 hi),vj (cr.1 hi)];exact h i hi
 have h2:cE m (c++[d]) c.length=bP m c d:=by
  unfold cE bP;cases c with
  |nil=>simp
  |cons x r=>
   have g1:((x::r)++[d]).getD (x::r).length 0=d:=by simp [uq4]
   have g2:((x::r)++[d]).getD ((x::r).length-1) 0=(x::r).getD ((x::r).length-1) 0:=by simp only [uq4];rw [List.getElem?_append_left (by simp)]
   rw [g1,g2];simp
 rw [fh,uq7,show c.length+[d].length=c.length+1 by rfl,bn,h1,h2];unfold gb;cases fh m c<;>cases bP m c d<;>simp
def lQ (m:aL) (n:Nat) (c:lI):Nat:=if fh m c=true then (bc m n c).length else 0
theorem Qc (m:aL) (c:lI) (h:fh m c=true):lQ m 0 c=if (bq c c.length:Int)<m.least then 0 else 1:=by rw [lQ,if_pos h,bc];split<;>rfl
def jV (m:aL) (n:Nat) (c:lI) (D:Nat):Nat:=((bB D).map fun (d:Nat)=>lQ m n (c++[(d:Int)])).sum
theorem nK (m:aL) (n:Nat) (c:lI) (D:Nat):jV m n c (D+1)=jV m n c D+lQ m n (c++[(D:Int)]):=by rw [jV,bk,List.map_append,List.sum_append];simp [jV]
def j6 (m:aL) (n:Nat) (c:lI) (D:Nat):lL:=(bB D).flatMap fun (d:Nat)=>if (bP m c (d:Int)&&gb m c (d:Int))=true then bc m n (c++[(d:Int)]) else []
theorem jW (m:aL) (n:Nat) (c:lI) (D:Nat):j6 m n c (D+1)=j6 m n c D++if (bP m c (D:Int)&&gb m c (D:Int))=true then bc m n (c++[(D:Int)]) else []:=by rw [j6,bk,List.flatMap_append];simp [j6]
theorem yD (m:aL) (n:Nat) (c:lI) (h:fh m c=true) (D:Nat):(j6 m n c D).length=jV m n c D:=by
 induction D with
 |zero=>rfl
 |succ D ih=>
  rw [jW,nK,uq7,ih];congr 1;rw [lQ,jx,h,Bool.true_and];split<;>rfl
theorem Qd (m:aL) (n:Nat) (c:lI) (h:fh m c=true):lQ m (n+1) c=jV m n c m.aq.toNat:=by rw [lQ,if_pos h,←yD m n c h];rfl
theorem Dg (m:aL) (hm:a6 m=true) (n:Nat) (c:lI):lQ m n c<=8^n:=by
 unfold lQ;split
 . exact ko m hm n c
 exact Nat.zero_le _
theorem yE (m:aL) (hm:a6 m=true) (n:Nat) (c:lI) (D:Nat):jV m n c D<=D*8^n:=by
 induction D with
 |zero=>simp [jV]
 |succ D ih=>rw [nK,Nat.succ_mul];exact Nat.add_le_add ih (Dg m hm n _)
theorem qS {m:aL} {n:Nat} {c k:lI}:∀{D:Nat},k∈j6 m n c D->∃d:Nat,d<D/\k.take (c.length+1)=c++[(d:Int)]
 |0,h=>by cases h
 |D+1,h=>by
  rw [jW,dD] at h;rcases h with h|h
  . obtain ⟨d,h1,h2⟩:=qS h;exact ⟨d,by omega,h2⟩
  split at h
  . have:=(nJ m n _ k h).1;exact ⟨D,by omega,by simpa using this⟩
  cases h
theorem sK (m:aL) (n:Nat) (c:lI) (D:Nat):∀E,∃r,j6 m n c (D+E)=j6 m n c D++r
 |0=>⟨[],by simp⟩
 |E+1=>by obtain ⟨r,h⟩:=sK m n c D E;exact ⟨r++_,by rw [←Nat.add_assoc,jW,h,List.append_assoc]⟩
def cN (m:aL) (key:lI):Nat->Nat
 |0=>0
 |i+1=>cN m key i+jV m (key.length-(i+1)) (key.take i) (key.getD i 0).toNat
theorem yF {key:lI} {i:Nat} (h:i<key.length):key.take (i+1)=key.take i++[key.getD i 0]:=by rw [List.take_add_one];simp [uq4,h]
theorem BU {m:aL} {key:lI} (h:fh m key=true):∀j,fh m (key.take (key.length-j))=true
 |0=>by simpa using h
 |j+1=>by
  have ih:=BU h j;by_cases e:j<key.length
  . rw [show key.length-j=key.length-(j+1)+1 by omega,yF (by omega),jx] at ih;simp only [uq0] at ih;exact ih.1
  rw [show key.length-(j+1)=key.length-j by omega];exact ih
theorem nL {m:aL} {key:lI} (h:fh m key=true) {i:Nat} (hi:i<=key.length):fh m (key.take i)=true:=by
 have:=BU h (key.length-i)
 rwa [show key.length-(key.length-i)=i by omega] at this
theorem Km {m:aL} {key:lI} (h:fh m key=true) (hk:¬(bq key key.length:Int)<m.least) (he:∀x∈key,0<=x/\x<m.aq):∀(n i:Nat),i+n=key.length→
 ∃a b,bc m n (key.take i)=a++key::b/\key∉a/\a.length+cN m key i=cN m key key.length
 |0,i,hi=>by
  have e:key.take i=key:=by rw [show i=key.length by omega];exact cK
  refine ⟨[],[],?_,List.not_mem_nil,?_⟩
  . rw [e,bc,if_neg hk];rfl
  rw [show i=key.length by omega];simp
 |n+1,i,hi=>by
  have hlt:i<key.length:=by omega
  have hx:=he (key.getD i 0) (by rw [uq4,uq5 hlt];exact uq6 _);have hsn:=yF hlt;have me:=nL h (show i+1<=key.length by omega);obtain ⟨a',b',h1,h2,h3⟩:=Km h hk he n (i+1) (by omega);have ed:((key.getD i 0).toNat:Int)=key.getD i 0:=by omega
  have X9:(bP m (key.take i) ((key.getD i 0).toNat:Int)&&gb m (key.take i) ((key.getD i 0).toNat:Int))=true:=by rw [hsn,jx] at me;simp only [uq0] at me;rw [ed,me.2.1,me.2.2];rfl
  obtain ⟨r,hr⟩:=sK m n (key.take i) ((key.getD i 0).toNat+1) (m.aq.toNat-((key.getD i 0).toNat+1));rw [show (key.getD i 0).toNat+1+(m.aq.toNat-((key.getD i 0).toNat+1))=m.aq.toNat by omega,jW,if_pos X9,ed,←hsn,h1] at hr;refine ⟨j6 m n (key.take i) (key.getD i 0).toNat++a',b'++r,?_,fun hm=> ?_,?_⟩
  . show j6 m n (key.take i) m.aq.toNat=_;rw [hr];simp
  . rcases dD.1 hm with hm|hm
    . obtain ⟨d,g1,g2⟩:=qS hm;rw [show (key.take i).length+1=i+1 by simp;omega,hsn] at g2;have:=List.append_cancel_left g2;injection this with this
      omega
    exact h2 hm
  rw [uq7,yD m n _ (nL h (by omega)),←h3,cN,show key.length-(i+1)=n by omega];omega
theorem pO {m:aL} {c:lI} (h:fault m c=0):(c.length:Int)=m.ah/\(∀x∈c,0<=x/\x<m.aq)/\fh m c=true/\¬(bq c c.length:Int)<m.least:=by
 unfold fault at h;split at h
 . cases h
 rename_i h1;split at h
 . cases h
 rename_i h2;split at h
 . cases h
 rename_i h3;split at h
 . cases h
 rename_i h4;split at h
 . cases h
 rename_i h5;refine ⟨by omega,fun x hx=> ?_,?_,h5⟩
 . have:=uq1.1 (by simpa using h2) x hx;simp [bF] at this;omega
 unfold fh;rw [uq1];intro i hi;have a3:=uq1.1 (by simpa using h3) i hi;have h4':((bB c.length).all fun i=>decide ((ba c i:Int)<=m.same))=true:=by
  cases hh:((bB c.length).all fun i=>decide ((ba c i:Int)<=m.same)) with
  |true=>rfl
  |false=>exact absurd hh h4
 have a4:=uq1.1 h4' i hi;simp only [a3,a4,Bool.and_self]
theorem Dh {m:aL} {key:lI} (h:fault m key=0):(bH (cB key) 0 (bc m m.ah.toNat [])).1=cN m key key.length/\cN m key key.length<lQ m m.ah.toNat []:=by
 obtain ⟨h1,h2,h3,h4⟩:=pO h;obtain ⟨a,b,g1,g2,g3⟩:=Km h3 h4 h2 key.length 0 (by omega);rw [show key.length=m.ah.toNat by omega] at g1;have g1':bc m m.ah.toNat []=a++key::b:=g1;have g3':a.length=cN m key key.length:=by simpa [cN] using g3
 rw [g1',yC a b 0 g2,←g3'];refine ⟨by simp,?_⟩;have h0:fh m []=true:=rfl;rw [lQ,if_pos h0,g1'];simp
theorem gw {m:aL} {c:lI} (h:fF m c=true):(c.length:Int)=m.ah/\∀y∈c,0<=y/\y<m.aq:=by obtain ⟨h1,h2,_⟩:=pO (beq_iff_eq.1 h);exact ⟨h1,h2⟩
theorem dJ {m:aL} {t ae:lL} (h:dY m t ae=true):ae.length=t.length/\∀x∈ae,fF m x=true:=by simp only [dY,uq0,beq_iff_eq,uq1] at h;exact h
theorem lR {m:aL} {t:lL} (h:eV m t=true):a6 m=true:=by simp only [eV,uq0] at h;exact h.1.1
theorem vm (m:aL) (t ae:lL):(((gS m t ae).length:Int)==0)=(gS m t ae).isEmpty:=by
 cases gS m t ae with
 |nil=>rfl
 |cons x r=>simp;omega
theorem tB {m:aL} {t ae:lL} (h:bm m t ae=true):eV m t=true/\dY m t ae=true:=by simp only [bm,uq0] at h;exact h.1
theorem ML (m:aL) (t ae:lL) (h:t.length<=1048576) (h2:∀x∈t,x.length<=1048576) (h3:ae.length<=1048576) (h4:∀x∈ae,x.length<=1048576) (hs:eV m t=true):Fn pG 190 [jR m t,aR ae] true (· =eB (dY m t ae)):=by
 have hn:=iW hs;have hq:=BL m ae (lR hs) h3 h4;have hlen:((ae.length:Int)==(t.length:Int))=(ae.length==t.length):=by rw [Bool.eq_iff_iff];simp only [beq_iff_eq];omega
 refine Fn.av 17 [.tmp 4] func190 (hv:= ?_);unfold dY;rcases hl:(ae.length==t.length) with _|_
 . simp -dsimp -implicitDefEqProofs only [go_sem,hlen,hl]
 have he:=beq_iff_eq.1 hl;rw [decide_eq_true (show _ by omega),Bool.and_true] at hq;simp -dsimp -implicitDefEqProofs only [go_sem,hlen,hl];refine ab hq ?_;simp -dsimp -implicitDefEqProofs only [go_sem]
theorem tC (m:aL) (t ae:lL) (h:t.length<=1048576) (h2:∀x∈t,x.length<=1048576) (h3:ae.length<=1048576) (h4:∀x∈ae,x.length<=1048576):Fn pG 139 [jR m t,aR ae] true (· =eI (bY m t ae)):=by
 refine Fn.av 12 [.tmp 4] func139 (hv:= ?_);have hq:=vf m t h h2;unfold bY;rcases hb:eV m t with _|_
 . rw [hb] at hq;simp -dsimp -implicitDefEqProofs only [go_sem];refine ab hq ?_;simp -dsimp -implicitDefEqProofs only [go_sem]
 have hr:=ML m t ae h h2 h3 h4 hb;rw [hb] at hq;simp -dsimp -implicitDefEqProofs only [go_sem];refine ab hq ?_;simp -dsimp -implicitDefEqProofs only [go_sem];refine ab hr ?_;cases dY m t ae<;>simp -dsimp -implicitDefEqProofs only [go_sem];all_goals ((with_reducible and_intros);all_goals try first|omega|(refine ⟨?_,?_⟩<;>omega)|exact rfl)
theorem F2 (m:aL) (t ae:lL) (h:t.length<=1048576) (h2:∀x∈t,x.length<=1048576) (h3:ae.length<=1048576) (h4:∀x∈ae,x.length<=1048576):Fn pG 192 [jR m t,aR ae] true (· =eB (bm m t ae)):=by
 refine Fn.av 16 [.tmp 4] func192 (hv:= ?_);have hq:=tC m t ae h h2 h3 h4;have hf0:=vm m t ae;rcases hb:(eV m t&&dY m t ae) with _|_
 . have hc:(bY m t ae==0)=false:=by
    unfold bY;cases h1:eV m t<;>cases h2:dY m t ae<;>simp_all
   unfold bm;rw [hb];generalize bY m t ae=c at*;simp -dsimp -implicitDefEqProofs only [go_sem];refine ab hq ?_;simp -dsimp -implicitDefEqProofs only [go_sem,hc]
 obtain ⟨h5,h6⟩:=Bool.and_eq_true_iff.1 hb;have hn:=iW h5;obtain ⟨h7,h8⟩:=dJ h6;have hr:=qR m t ae (lR h5) (by omega) (by omega) (by omega) (fun i hi=>hn.2.2.2.2 i hi) (by omega) (fun x hx=>(gw (h8 x hx)).1);have hc:bY m t ae=0:=by rw [bY,h5,h6];rfl
 rw [hc] at hq;unfold bm;rw [hb];generalize gS m t ae=F at*;simp -dsimp -implicitDefEqProofs only [go_sem];refine ab hq ?_;simp -dsimp -implicitDefEqProofs only [go_sem];refine ax (hr) (by simp [ay,ao,au,aH]) ?_;simp -dsimp -implicitDefEqProofs only [go_sem,hf0]
theorem pP (m:aL) (t ae:lL) (h:t.length<=1048576) (h2:∀x∈t,x.length<=1048576) (h3:ae.length<=1048576) (h4:∀x∈ae,x.length<=1048576):Fn pG 141 [jR m t,aR ae] true (· =eI (if bm m t ae then 0 else 1)):=by refine Fn.av 9 [.tmp 4] func141 (hv:= ?_);have hq:=F2 m t ae h h2 h3 h4;simp -dsimp -implicitDefEqProofs only [go_sem];refine ab hq ?_;cases bm m t ae<;>simp -dsimp -implicitDefEqProofs only [go_sem];all_goals ((with_reducible and_intros);all_goals try first|omega|(refine ⟨?_,?_⟩<;>omega)|exact rfl)
theorem qT (m:aL) (t ae:lL) (h:t.length<=1048576) (h2:∀x∈t,x.length<=1048576) (h3:ae.length<=1048576) (h4:∀x∈ae,x.length<=1048576):Fn pG 161 [jR m t,aR ae] true (· =eI (bY m t ae)):=by
 refine Fn.av 21 [.tmp 4] func161 (hv:= ?_);have hq:=ve m t h h2;unfold bY;rcases hb:eV m t with _|_
 . rw [hb] at hq;simp -dsimp -implicitDefEqProofs only [go_sem];refine ab hq ?_;simp -dsimp -implicitDefEqProofs only [go_sem]
 have hr:=tz m ae (lR hb) h3 h4;rw [hb] at hq;have hlen:((ae.length:Int) != (t.length:Int))= !(ae.length==t.length):=by rw [Bool.eq_iff_iff];simp only [bne_iff_ne,Bool.not_eq_true',beq_eq_false_iff_ne];omega
 unfold dY;rcases hl:(ae.length==t.length) with _|_
 . simp -dsimp -implicitDefEqProofs only [go_sem];refine ab hq ?_;simp -dsimp -implicitDefEqProofs only [go_sem,hlen,hl,Bool.not_false]
 simp -dsimp -implicitDefEqProofs only [go_sem];refine ab hq ?_;simp -dsimp -implicitDefEqProofs only [go_sem,hlen,hl,Bool.not_true];refine ab hr ?_;cases ae.all (fF m)<;>simp -dsimp -implicitDefEqProofs only [go_sem]
theorem F3 (m:aL) (t ae:lL) (h:t.length<=1048576) (h2:∀x∈t,x.length<=1048576) (h3:ae.length<=1048576) (h4:∀x∈ae,x.length<=1048576):Fn pG 220 [jR m t,aR ae] true (· =eB (bm m t ae)):=by
 refine Fn.av 16 [.tmp 4] func220 (hv:= ?_);have hq:=qT m t ae h h2 h3 h4;have hf0:=vm m t ae;rcases hb:(eV m t&&dY m t ae) with _|_
 . have hc:(bY m t ae==0)=false:=by
    unfold bY;cases h1:eV m t<;>cases h2:dY m t ae<;>simp_all
   unfold bm;rw [hb];generalize bY m t ae=c at*;simp -dsimp -implicitDefEqProofs only [go_sem];refine ab hq ?_;simp -dsimp -implicitDefEqProofs only [go_sem,hc]
 obtain ⟨h5,h6⟩:=Bool.and_eq_true_iff.1 hb;have hn:=iW h5;obtain ⟨h7,h8⟩:=dJ h6;have hr:=nI m t ae (lR h5) (by omega) (by omega) (by omega) (fun i hi=>hn.2.2.2.2 i hi) (by omega) (fun x hx=>gw (h8 x hx));have hc:bY m t ae=0:=by rw [bY,h5,h6];rfl
 rw [hc] at hq;unfold bm;rw [hb];generalize gS m t ae=F at*;simp -dsimp -implicitDefEqProofs only [go_sem];refine ab hq ?_;simp -dsimp -implicitDefEqProofs only [go_sem];refine ax (hr) (by simp [ay,ao,au,aH]) ?_;simp -dsimp -implicitDefEqProofs only [go_sem,hf0]
theorem kp (m:aL) (t ae:lL) (h:t.length<=1048576) (h2:∀x∈t,x.length<=1048576) (h3:ae.length<=1048576) (h4:∀x∈ae,x.length<=1048576):Fn pG 168 [jR m t,aR ae] true (· =eI (if bm m t ae then 0 else 1)):=by refine Fn.av 9 [.tmp 4] func168 (hv:= ?_);have hq:=F3 m t ae h h2 h3 h4;simp -dsimp -implicitDefEqProofs only [go_sem];refine ab hq ?_;cases bm m t ae<;>simp -dsimp -implicitDefEqProofs only [go_sem];all_goals ((with_reducible and_intros);all_goals try first|omega|(refine ⟨?_,?_⟩<;>omega)|exact rfl)
def kZ (set:lI):Nat->lI
 |0=>[set.getD 0 0]
 |i+1=>kZ set i++[set.getD (i+1) 0-set.getD i 0]
theorem qU (set:lI):kZ set 0=[set.getD 0 0]:=rfl
theorem nM (set:lI) (i:Nat):kZ set (i+1)=kZ set i++[set.getD (i+1) 0-set.getD i 0]:=rfl
theorem kE (set:lI):∀i,(kZ set i).length=i+1
 |0=>rfl
 |i+1=>by rw [nM,uq7,kE set i];rfl
def vn (m:aL) (set:lI):lI:=kZ set (set.length-1)++[m.aq-1-set.getD (set.length-1) 0]
theorem Tp {m:aL} {set:lI} (h:0<set.length):(vn m set).length=set.length+1:=by rw [vn,uq7,kE];simp;omega
theorem fO {xs:lI} {n:Int} (h:lP xs n=true) {i:Nat} (hi:i<xs.length):0<=xs.getD i 0/\xs.getD i 0<n/\(0<i->xs.getD (i-1) 0<xs.getD i 0):=by unfold lP at h;rw [uq1] at h;have:=h i (cr.2 hi);simp only [eU,uq0,Bool.or_eq_true,decide_eq_true_eq,beq_iff_eq] at this;exact ⟨this.1.1,this.1.2,fun h0=>this.2.resolve_left (by omega)⟩
theorem F4 {m:aL} {set:lI} (h:lP set m.aq=true):∀i,i<set.length->∀x∈kZ set i,0<=x/\x<m.aq
 |0,hi,x,hx=>by
  have:=fO h hi;simp only [qU,bQ] at hx;subst hx;omega
 |i+1,hi,x,hx=>by
  rw [nM] at hx;rcases dD.1 hx with hx|hx
  . exact F4 h i (by omega) x hx
  simp only [bQ] at hx;subst hx;have h1:=fO h hi;have h2:=fO h (show i<set.length by omega);have:=h1.2.2 (by omega);simp only [Nat.add_sub_cancel] at this;omega
theorem IP {m:aL} {set:lI} (h:cT m set=true):0<set.length/\∀x∈vn m set,0<=x/\x<m.aq:=by
 simp only [cT,uq0,decide_eq_true_eq] at h;have h0:0<set.length:=by omega
 refine ⟨h0,fun x hx=> ?_⟩;rcases dD.1 hx with hx|hx
 . exact F4 h.2 _ (by omega) x hx
 simp only [bQ] at hx;have:=fO h.2 (show set.length-1<set.length by omega);subst hx;omega
structure Z3 where
 b:lI
 w:lI
 d:lI
def pins (m:aL) (l:lL):lL:=l.map (vn m)
theorem IQ (m:aL) (set:lI) (hm:a6 m=true) (hs:cT m set=true) (h:set.length<=1048576):Fn pG 197 [kV m,aM set] true (· =aM (vn m set)):=by
 refine Fn.av 43 [.tmp 4] func197 (hv:= ?_);have ⟨⟨n1,n2⟩,n3,n4⟩:=aO hm;obtain ⟨h0,hin⟩:=IP hs;have hr:lP set m.aq=true:=by simp only [cT,uq0] at hs;exact hs.2
 have g0:=get_some h0;have hg0:set.getD 0 0=set[0]:=by simp [uq4,h0]
 simp -dsimp -implicitDefEqProofs only [go_sem,g0];refine ⟨by omega,?_⟩;refine ak.up [1,2] [13,28,29] [10] (set.length-1) (fun _=>True) (fun j=>[(6,eI (1+(j:Int))),(5,.ref 10 0 0 (kZ set j).length)]) (fun j=>[(10,.row 0 ⟨1,false⟩ true ((kZ set j).map eI))]) trivial ?_ rfl (fun j hj _=> ?_) (fun _=> ?_)
 . simp -dsimp -implicitDefEqProofs only [go_sem,qU,hg0];(all_goals try (exact rfl))
 . have hlen:=kE set j;have h1:j<set.length:=by omega
   have h2:j+1<set.length:=by omega
   have a1:=fO hr h1;have a2:=fO hr h2;have e1:set.getD j 0=set[j]:=by simp [uq4,h1]
   have e2:set.getD (j+1) 0=set[j+1]:=by simp [uq4,h2]
   have g1:set[(1+(j:Int)-1).toNat]? =some set[j]:=by rw [show (1+(j:Int)-1).toNat=j by omega];exact get_some h1
   have g2:set[(1+(j:Int)).toNat]? =some set[j+1]:=by rw [show (1+(j:Int)).toNat=j+1 by omega];exact get_some h2
   have hlt:decide (1+(j:Int)<(set.length:Int))=true:=dT (by omega);rw [nM,e1,e2];rw [e1] at a1;rw [e2] at a2;generalize kZ set j=F at*;generalize set[j]=x at*;generalize set[j+1]=y at*;have htk:=a8 eI F F.length (cH _);simp -dsimp -implicitDefEqProofs only [pz,bg,bj,aY,↓reduceIte,aP];simp -dsimp -implicitDefEqProofs only [go_sem,hlt];refine ak.draw mixed rfl ?_;simp -dsimp -implicitDefEqProofs only [go_sem,g1,g2,htk];((with_reducible and_intros);all_goals try first|omega|(refine ⟨?_,?_⟩<;>omega)|exact rfl);all_goals first|(simp;done)|skip
 have hlen:=kE set (set.length-1);have h1:set.length-1<set.length:=by omega
 have a1:=fO hr h1;have e1:set.getD (set.length-1) 0=set[set.length-1]:=by simp [uq4,h1]
 have g1:set[((set.length:Int)-1).toNat]? =some set[set.length-1]:=by rw [show ((set.length:Int)-1).toNat=set.length-1 by omega];exact get_some h1
 have hlt:decide (1+((set.length-1:Nat):Int)<(set.length:Int))=false:=dF (by omega);unfold vn;rw [e1];rw [e1] at a1;generalize kZ set (set.length-1)=F at*;generalize set[set.length-1]=x at*;have htk:=a8 eI F F.length (cH _);have Rg:∀z,bR (F.length+1) (uq8 eI F++[eI z])=uq8 eI F++[eI z]:=fun z=>cP (by simp);simp -dsimp -implicitDefEqProofs only [pz,bg,bj,aY,↓reduceIte,aP];simp -dsimp -implicitDefEqProofs only [go_sem,hlt];refine ak.draw mixed rfl ?_;simp -dsimp -implicitDefEqProofs only [go_sem,g1,htk,Rg];((with_reducible and_intros);all_goals try first|omega|(refine ⟨?_,?_⟩<;>omega)|exact rfl);all_goals first|(simp;done)|skip
theorem MN (m:aL) (set:lI) (hm:a6 m=true) (hs:cT m set=true) (h:set.length<=1048576):Fn pG 216 [kV m,aM set] true (· =aM (vn m set)):=by
 refine Fn.av 43 [.tmp 4] func216 (hv:= ?_);have ⟨⟨n1,n2⟩,n3,n4⟩:=aO hm;obtain ⟨h0,hin⟩:=IP hs;have hr:lP set m.aq=true:=by simp only [cT,uq0] at hs;exact hs.2
 have g0:=get_some h0;have hg0:set.getD 0 0=set[0]:=by simp [uq4,h0]
 simp -dsimp -implicitDefEqProofs only [go_sem,g0];refine ⟨by omega,?_⟩;refine ak.up [1,2] [13,28,29] [10] (set.length-1) (fun _=>True) (fun j=>[(6,eI (1+(j:Int))),(5,.ref 10 0 0 (kZ set j).length)]) (fun j=>[(10,.row 0 ⟨1,false⟩ true ((kZ set j).map eI))]) trivial ?_ rfl (fun j hj _=> ?_) (fun _=> ?_)
 . simp -dsimp -implicitDefEqProofs only [go_sem,qU,hg0];(all_goals try (exact rfl))
 . have hlen:=kE set j;have h1:j<set.length:=by omega
   have h2:j+1<set.length:=by omega
   have a1:=fO hr h1;have a2:=fO hr h2;have e1:set.getD j 0=set[j]:=by simp [uq4,h1]
   have e2:set.getD (j+1) 0=set[j+1]:=by simp [uq4,h2]
   have g1:set[(1+(j:Int)-1).toNat]? =some set[j]:=by rw [show (1+(j:Int)-1).toNat=j by omega];exact get_some h1
   have g2:set[(1+(j:Int)).toNat]? =some set[j+1]:=by rw [show (1+(j:Int)).toNat=j+1 by omega];exact get_some h2
   have hlt:decide (1+(j:Int)<(set.length:Int))=true:=dT (by omega);rw [nM,e1,e2];rw [e1] at a1;rw [e2] at a2;generalize kZ set j=F at*;generalize set[j]=x at*;generalize set[j+1]=y at*;have htk:=a8 eI F F.length (cH _);simp -dsimp -implicitDefEqProofs only [pz,bg,bj,aY,↓reduceIte,aP];simp -dsimp -implicitDefEqProofs only [go_sem,hlt];refine ak.draw mixed rfl ?_;simp -dsimp -implicitDefEqProofs only [go_sem,g1,g2,htk];((with_reducible and_intros);all_goals try first|omega|(refine ⟨?_,?_⟩<;>omega)|exact rfl);all_goals first|(simp;done)|skip
 have hlen:=kE set (set.length-1);have h1:set.length-1<set.length:=by omega
 have a1:=fO hr h1;have e1:set.getD (set.length-1) 0=set[set.length-1]:=by simp [uq4,h1]
 have g1:set[((set.length:Int)-1).toNat]? =some set[set.length-1]:=by rw [show ((set.length:Int)-1).toNat=set.length-1 by omega];exact get_some h1
 have hlt:decide (1+((set.length-1:Nat):Int)<(set.length:Int))=false:=dF (by omega);unfold vn;rw [e1];rw [e1] at a1;generalize kZ set (set.length-1)=F at*;generalize set[set.length-1]=x at*;have htk:=a8 eI F F.length (cH _);have Rg:∀z,bR (F.length+1) (uq8 eI F++[eI z])=uq8 eI F++[eI z]:=fun z=>cP (by simp);simp -dsimp -implicitDefEqProofs only [pz,bg,bj,aY,↓reduceIte,aP];simp -dsimp -implicitDefEqProofs only [go_sem,hlt];refine ak.draw mixed rfl ?_;simp -dsimp -implicitDefEqProofs only [go_sem,g1,htk,Rg];((with_reducible and_intros);all_goals try first|omega|(refine ⟨?_,?_⟩<;>omega)|exact rfl);all_goals first|(simp;done)|skip
theorem MO (m:aL) (l:lL) (hm:a6 m=true) (hl:fv m l=true) (h2:∀x∈l,x.length<=1048576):Fn pG 148 [kV m,sy l] false (· =aR (pins m l)):=by
 have ⟨⟨n1,n2⟩,n3,n4⟩:=aO hm;simp only [fv,uq0,uq1,beq_iff_eq] at hl;obtain ⟨hl1,hl2⟩:=hl;refine Fn.cg 26 [.tmp 4] func148 (hv:= ?_);simp -dsimp -implicitDefEqProofs only [go_sem];refine ak.up [2,3] [11,22,23,24] [7] l.length (fun _=>True) (fun i=>[(6,eI i),(5,.ref 7 0 0 i)]) (fun i=>[(7,.row 0 ⟨1,false⟩ (i==0) (((l.take i).map (vn m)).map aM))]) trivial ?_ rfl (fun i hi _=> ?_) (fun _=> ?_)
 . simp -dsimp -implicitDefEqProofs only [go_sem,cf,List.map_nil]
 . have gi:=get_some hi;have li:=aG hi;have hq:=IQ m l[i] hm (hl2 _ (uq6 hi)) (h2 _ (uq6 hi));have ht:(l.take (i+1)).map (vn m)=(l.take i).map (vn m)++[vn m l[i]]:=by rw [jd hi,List.map_append];rfl
   have hln:((l.take i).map (vn m)).length=i:=by simp;omega
   rw [ht];generalize (l.take i).map (vn m)=F at*;generalize vn m l[i]=s at*;generalize l[i]=x at*;have htk:=a8 aM F i (by omega);have e0:(i+1==0)=false:=rfl;have e2:uq8 aM (F++[s])=uq8 aM F++[aM s]:=by simp
   simp -dsimp -implicitDefEqProofs only [pz,bg,bj,aY,↓reduceIte,aP];simp -dsimp -implicitDefEqProofs only [go_sem,li];refine ak.draw mixed rfl ?_;simp -dsimp -implicitDefEqProofs only [go_sem,gi];((with_reducible and_intros);all_goals try (omega));refine an hq ?_;simp -dsimp -implicitDefEqProofs only [go_sem];refine .inr ⟨by omega,by omega,(by cases i with|zero=>exact .inr rfl|succ i=>exact .inl rfl),by exact rfl,⟨by omega,by omega⟩,rfl,?_⟩;rw [e0,e2];simp -dsimp -implicitDefEqProofs only [go_sem,htk]
 rw [cK];unfold pins;have hln:(l.map (vn m)).length=l.length:=by simp
 generalize l.map (vn m)=F at*;have htk:=a8 aM F l.length (by omega);simp -dsimp -implicitDefEqProofs only [pz,bg,bj,aY,↓reduceIte,aP];simp -dsimp -implicitDefEqProofs only [go_sem,aC];((with_reducible and_intros);all_goals try (omega));all_goals rw [htk]
theorem Qe (m:aL) (l:lL) (hm:a6 m=true) (hl:fv m l=true) (h2:∀x∈l,x.length<=1048576):Fn pG 164 [kV m,sy l] false (· =aR (pins m l)):=by
 have ⟨⟨n1,n2⟩,n3,n4⟩:=aO hm;simp only [fv,uq0,uq1,beq_iff_eq] at hl;obtain ⟨hl1,hl2⟩:=hl;refine Fn.cg 24 [.tmp 4] func164 (hv:= ?_);simp -dsimp -implicitDefEqProofs only [go_sem];refine ak.up [2,10,11] [19,20,21] [8] l.length (fun _=>True) (fun i=>[(12,eI i),(5,.ref 8 0 0 i)]) (fun i=>[(8,.row 0 ⟨1,false⟩ (i==0) (((l.take i).map (vn m)).map aM))]) trivial ?_ rfl (fun i hi _=> ?_) (fun _=> ?_)
 . simp -dsimp -implicitDefEqProofs only [go_sem,cf,List.map_nil]
 . have gi:=get_some hi;have li:=aG hi;have hq:=MN m l[i] hm (hl2 _ (uq6 hi)) (h2 _ (uq6 hi));have ht:(l.take (i+1)).map (vn m)=(l.take i).map (vn m)++[vn m l[i]]:=by rw [jd hi,List.map_append];rfl
   have hln:((l.take i).map (vn m)).length=i:=by simp;omega
   rw [ht];generalize (l.take i).map (vn m)=F at*;generalize vn m l[i]=s at*;generalize l[i]=x at*;have htk:=a8 aM F i (by omega);have e0:(i+1==0)=false:=rfl;have e2:uq8 aM (F++[s])=uq8 aM F++[aM s]:=by simp
   simp -dsimp -implicitDefEqProofs only [pz,bg,bj,aY,↓reduceIte,aP];simp -dsimp -implicitDefEqProofs only [go_sem,li,gi];((with_reducible and_intros);all_goals try (omega));refine ab hq ?_;simp -dsimp -implicitDefEqProofs only [go_sem];refine .inr ⟨by omega,by omega,(by cases i with|zero=>exact .inr rfl|succ i=>exact .inl rfl),⟨by omega,by omega⟩,rfl,?_⟩;rw [e0,e2];simp -dsimp -implicitDefEqProofs only [go_sem,htk]
 rw [cK];unfold pins;have hln:(l.map (vn m)).length=l.length:=by simp
 generalize l.map (vn m)=F at*;have htk:=a8 aM F l.length (by omega);simp -dsimp -implicitDefEqProofs only [pz,bg,bj,aY,↓reduceIte,aP];simp -dsimp -implicitDefEqProofs only [go_sem,aC];((with_reducible and_intros);all_goals try (omega));all_goals rw [htk]
def bE (m:aL):lL:=bc m m.ah.toNat []
theorem Qf (m:aL):lQ m m.ah.toNat []=(bE m).length:=by rw [lQ,if_pos (show fh m []=true from rfl)];rfl
structure qo (m:aL) (k:lI):Prop where
 len:(k.length:Int)=m.ah
 ok:fh m k=true
 kinds:¬(bq k k.length:Int)<m.least
 el:∀x∈k,0<=x/\x<m.aq
theorem vo {m:aL}:∀(n:Nat) (c k:lI),fh m c=true->(∀x∈c,0<=x/\x<m.aq)->k∈bc m n c->k.length=c.length+n/\fh m k=true/\¬(bq k k.length:Int)<m.least/\∀x∈k,0<=x/\x<m.aq
 |0,c,k,h1,h2,h=>by
  simp only [bc] at h;split at h
  . cases h
  rename_i hk;rw [bQ] at h;subst h;exact ⟨rfl,h1,hk,h2⟩
 |n+1,c,k,h1,h2,h=>by
  simp only [bc,List.mem_flatMap,cr] at h;obtain ⟨d,hd,h⟩:=h;split at h
  . rename_i hc
    obtain ⟨g1,g2⟩:=vo n (c++[(d:Int)]) k (by rw [jx,h1,Bool.true_and];exact hc) (fun x hx=>by
     rcases dD.1 hx with h|h
     . exact h2 x h
     simp at h;omega) h
    exact ⟨by rw [g1];simp;omega,g2⟩
  cases h
theorem kq {m:aL} (hm:0<=m.ah) {k:lI} (h:k∈bE m):qo m k:=by obtain ⟨h1,h2,h3,h4⟩:=vo m.ah.toNat [] k rfl (fun x hx=>by cases hx) h;exact ⟨by rw [h1];simp;omega,h2,h3,h4⟩
theorem qo.Qg {m:aL} {k:lI} (h:fault m k=0):qo m k:=by obtain ⟨h1,h2,h3,h4⟩:=pO h;exact ⟨h1,h3,h4,h2⟩
theorem qo.fault {m:aL} {k:lI} (h:qo m k):fault m k=0:=by
 obtain ⟨h1,h2,h3,h4⟩:=h;unfold Go.Vc.fault;rw [if_neg (by omega)];have e2:(k.all fun x=>bF x 0 (m.aq-1))=true:=by rw [uq1];intro x hx;have:=h4 x hx;simp [bF];omega
 unfold fh at h2;rw [uq1] at h2;have e3:((bB k.length).all fun i=>cE m k i)=true:=by rw [uq1];intro i hi;have:=h2 i hi;simp only [uq0] at this;exact this.2
 have e4:((bB k.length).all fun i=>decide ((ba k i:Int)<=m.same))=true:=by rw [uq1];intro i hi;have:=h2 i hi;simp only [uq0] at this;exact this.1
 simp [e2,e3,e4,h3]
theorem o4 {m:aL}:∀(n:Nat) (c:lI),(bc m n c).Nodup
 |0,c=>by
  simp only [bc];split
  . exact List.nodup_nil
  simp
 |n+1,c=>by
  show (j6 m n c m.aq.toNat).Nodup;have key:∀D,(j6 m n c D).Nodup:=by
   intro D;induction D with
   |zero=>exact List.nodup_nil
   |succ D ih=>
    rw [jW,List.nodup_append];refine ⟨ih,?_,fun a ha b hb=> ?_⟩
    . split
      . exact o4 n _
      exact List.nodup_nil
    rintro rfl;obtain ⟨d,hd,g⟩:=qS ha;split at hb
    . have g2:=(nJ m n _ a hb).1;have e:(c++[(D:Int)]).length=c.length+1:=by simp
      rw [e,g] at g2;have:=List.append_cancel_left g2;injection this with this _
      omega
    cases hb
  exact key _
def F5 (m:aL) (c:lI) (i:Nat):Bool:=decide ((ba c i:Int)<=m.same)&&cE m c i
theorem lS (m:aL) (c:lI) (hm:a6 m=true) (h:c.length<=6) (hel:∀x∈c,0<=x/\x<=7):Fn pG 127 [kV m,aM c] true (· =eB (fh m c)):=by
 refine Fn.av 53 [.tmp 4] func127 (hv:= ?_);have hF:fh m c=(bB c.length).all (F5 m c):=rfl;simp -dsimp -implicitDefEqProofs only [go_sem];refine ak.up [1,2] [9,47] [] c.length (fun i=>(bB i).all (F5 m c)=true) (fun i=>[(6,eI i),(5,eI (dA c i))]) (fun _=>[]) (by simp) ?_ rfl (fun i hi hI=> ?_) (fun hI=> ?_)
 . rw [show dA c 0=0 from rfl];simp -dsimp -implicitDefEqProofs only [go_sem]
 . have no:F5 m c i=false->fh m c=false:=fun h=>by rw [hF];exact b9 hi h
   have yes:F5 m c i=true->(bB (i+1)).all (F5 m c)=true:=fun h=>by rw [bn,hI,h];rfl
   have hrb:dA c i<=i/\dA c (i+1)<=i+1:=by
    refine ⟨?_,(iq c i).2.1⟩;rw [dA];split
    . omega
    have:=(iq c (i-1)).2.1;omega
   have e1:=hel c[i] (uq6 hi);have gi:=get_some hi;have li:=aG hi;have hok:F5 m c i=(decide (((dA c (i+1):Nat):Int)<=m.same)&&cE m c i):=rfl;clear hF hI;by_cases hi0:0<i
   rotate_left
   . have g3:decide ((i:Int)>0)=false:=by simp;omega
     have hR:dA c i=0/\dA c (i+1)=1:=by
      have e0:i=0:=by omega
      subst e0;exact ⟨rfl,by show ba c 0=1;unfold ba;rfl⟩
     have hs:F5 m c i=true:=by
      have e0:i=0:=by omega
      have:=mS hm;rw [hok,hR.2];subst e0;have:decide (((1:Nat):Int)<=m.same)=true:=dT (by omega);rw [this];rfl
     have jb:decide ((1:Int)>m.same)=false:=dF (by have:=mS hm;omega);rw [hR.1,hR.2];clear hR hrb no;have yes:=yes hs;simp -dsimp -implicitDefEqProofs only [pz,bg,bj,aY,↓reduceIte,aP];simp -dsimp -implicitDefEqProofs only [go_sem,li]
     repeat' first
      |(refine Br.intro (fun _=> ?_) (fun _=> ?_)<;>try simp -dsimp -implicitDefEqProofs only [go_sem, *])
      |(with_reducible refine ai ?_ ?_)
      |(refine ak.draw mixed rfl ?_;try simp -dsimp -implicitDefEqProofs only [go_sem,g3])
     all_goals (first|(refine ⟨?_,?_⟩<;>omega)|(simp;done)|rfl|(simp_all;done)|(simp_all;omega)|skip)
   have hi':i-1<c.length:=by omega
   have e2:=hel c[i-1] (uq6 hi');have g2:c[((i:Int)-1).toNat]? =some c[i-1]:=by rw [pred_toNat hi0];exact get_some hi'
   have g3:decide ((i:Int)>0)=true:=by simp;omega
   have hs:cE m c i= !decide (fg (c[i]-c[i-1])>m.step):=by
    rw [cE,show (i==0)=false by simp;omega];have q1:c.getD i 0=c[i]:=by simp [uq4,hi]
    have q2:c.getD (i-1) 0=c[i-1]:=by simp [uq4,hi']
    rw [q1,q2,Bool.false_or];by_cases hq:fg (c[i]-c[i-1])<=m.step
    . rw [decide_eq_true hq,decide_eq_false (by omega)];rfl
    rw [decide_eq_false hq,decide_eq_true (by omega)];rfl
   have hR:((dA c (i+1):Nat):Int)=if (c[i]==c[i-1])=true then (dA c i:Int)+1 else 0+1:=by
    obtain ⟨j,rfl⟩:∃j,i=j+1:=⟨i-1,by omega⟩;rw [show dA c (j+1+1)=ba c (j+1) from rfl,show dA c (j+1)=ba c j from rfl,ba];simp only [Nat.add_sub_cancel];have q1:c.getD (j+1) 0=c[j+1]:=by simp [uq4,hi]
    have q2:c.getD j 0=c[j]:=by simp [uq4,show j<c.length by omega]
    rw [q1,q2];by_cases hq:c[j+1]=c[j]
    . rw [if_pos hq,if_pos (by simpa using hq)];simp
    rw [if_neg hq,if_neg (by simpa using hq)];simp
   have rk:F5 m c i=(!decide (((dA c (i+1):Nat):Int)>m.same)&& !decide (fg (c[i]-c[i-1])>m.step)):=by
    rw [hok,hs];congr 1;by_cases hq:((dA c (i+1):Nat):Int)<=m.same
    . rw [decide_eq_true hq,decide_eq_false (by omega)];rfl
    rw [decide_eq_false hq,decide_eq_true (by omega)];rfl
   clear hok hs;rw [rk] at no yes;clear rk;have p5:=F0 (c[i]-c[i-1]) (by omega);rcases hq1:(c[i]==c[i-1]) with _|_
   all_goals
    rw [hq1] at hR;simp only [if_true,Bool.false_eq_true,if_false] at hR;have hne:(c[i] != c[i-1])= !(c[i]==c[i-1]):=rfl;rw [hq1] at hne;rw [hR] at no yes;rcases hq2:decide (fg (c[i]-c[i-1])>m.step) with _|_
   all_goals
    first
     |(rcases hq3:decide ((dA c i:Int)+1>m.same) with _|_)
     |skip
   all_goals
    generalize dA c i=R at*;generalize dA c (i+1)=R' at*;simp -dsimp -implicitDefEqProofs only [pz,bg,bj,aY,↓reduceIte,aP];try rw [hR]
    simp -dsimp -implicitDefEqProofs only [go_sem,li]
    repeat' first
     |(refine Br.intro (fun _=> ?_) (fun _=> ?_)<;>try simp -dsimp -implicitDefEqProofs only [go_sem, *])
     |(with_reducible refine ai ?_ ?_)
     |(refine ak.draw mixed rfl ?_;try simp -dsimp -implicitDefEqProofs only [go_sem,gi,g2,g3])
     |(refine an (p5) ?_;try simp -dsimp -implicitDefEqProofs only [go_sem, *])
    all_goals first
     |(rw [no (by simp_all)];done)
     |(rw [←bk];exact yes (by simp_all))
     |(first|omega|(refine ⟨?_,?_⟩<;>omega)|(simp;done)|rfl|(simp_all;done)|skip)
 rw [←hF] at hI;rw [hI];simp -dsimp -implicitDefEqProofs only [pz,bg,bj,aY,↓reduceIte,aP];simp -dsimp -implicitDefEqProofs only [go_sem,aC]
theorem F6 (xs ys:lI) (h:xs.length<=9223372036854775807):Fn pG 227 [aM xs,aM ys] true (· =eB (decide (xs=ys))):=by
 refine Fn.av 26 [.tmp 4] func227 (hv:= ?_);simp -dsimp -implicitDefEqProofs only [go_sem];repeat' (refine Br.intro (fun _=> ?_) (fun _=> ?_)<;>try simp -dsimp -implicitDefEqProofs only [go_sem, *])
 . rw [decide_eq_false];intro e;subst e;simp_all
 have h1:xs.length=ys.length:=by simp_all<;>omega
 refine ak.up [0,1,12] [] [] xs.length (fun i=>xs.take i=ys.take i) (fun i=>[(13,eI i)]) (fun _=>[]) rfl ?_ rfl (fun i hi hI=> ?_) (fun hI=> ?_)
 . simp -dsimp -implicitDefEqProofs only [go_sem]
 . simp -dsimp -implicitDefEqProofs only [pz,↓reduceIte,aP];have hy:i<ys.length:=by omega
   have no:xs[i]≠ys[i]->decide (xs=ys)=false:=Kf hi hy;have yes:xs[i]=ys[i]->xs.take (i+1)=ys.take (i+1):=C8 hi hy hI;simp -dsimp -implicitDefEqProofs only [go_sem,aG hi];refine ak.draw mixed rfl ?_;simp -dsimp -implicitDefEqProofs only [go_sem,get_some hi,get_some hy]
   repeat' first
    |(refine Br.intro (fun _=> ?_) (fun _=> ?_)<;>try simp -dsimp -implicitDefEqProofs only [go_sem, *])
    |(with_reducible refine ai ?_ ?_)
    |fail
   all_goals first
    |omega
    |(refine ⟨?_,?_⟩<;>omega)
    |rfl
    |(rw [no];clear no yes;simp_all;done)
    |(refine yes ?_;clear no yes;simp_all;done)
 simp -dsimp -implicitDefEqProofs only [pz,↓reduceIte,aP];simp -dsimp -implicitDefEqProofs only [go_sem,aC];have h3:xs=ys:=by rw [←cK (l:=xs),hI,h1,cK]
 simp [h3]
theorem Xw (c:lI) (af:Nat) (ys:lA) (s:Int) (hc:c.length<=6) (hy:ys.take c.length=c.map eI) (hs:0<=s/\s<=1000000):
 fN pG 228 [(1700000010,.row af ⟨1,false⟩ true ys),(1500000005,.box 0 [eI s])] [.ref 1700000010 af 0 c.length,.ptr 1500000005 0 0 0]
  (fun r m'=>r=eB (fK s c).2/\m'=[(1700000010,.row af ⟨1,false⟩ true ys),(1500000005,.box 0 [eI (fK s c).1])]):=by
 refine fN.dM 6 [.tmp 3] func228 (hv:= ?_);simp -dsimp -implicitDefEqProofs only [go_sem];refine ⟨⟨by omega,by omega⟩,_,⟨rfl,rfl⟩,aN ?_ ?_⟩
 . simp -dsimp -implicitDefEqProofs only [go_sem,fK]
 simp -dsimp -implicitDefEqProofs only [go_sem];simp
theorem Xx (m:aL) (hm:a6 m=true):∀(n:Nat) (c:lI) (t:KS Int),(c.length:Int)+n=m.ah->(∀x∈c,0<=x/\x<=7)->DS c t->(0<=t.s/\t.s+8^n<=1000000)→
 fN pG 262 [(1700000008,.box 0 [.ref 1700000010 t.af 0 c.length]),(1700000010,.row t.af ⟨1,false⟩ true (t.zs.map eI)),(1700000004,.box 0 [eI m.ah,eI m.aq,eI m.step,eI m.same,eI m.least]),(1700000007,.box 0 [.cy 228 [.ptr 1500000005 0 0 0]]),(1700000005,.box 0 [.val (.slice none 0 0)]),(1700000006,.box 0 [.val .nilFunc]),(1700000009,.box 0 [.cy 262 [.ptr 1700000008 0 0 0,.ptr 1700000004 0 0 0,.ptr 1700000007 0 0 0,.ptr 1700000005 0 0 0,.ptr 1700000006 0 0 0,.ptr 1700000009 0 0 0]]),(1500000005,.box 0 [eI t.s])] [eB false,.ptr 1700000008 0 0 0,.ptr 1700000004 0 0 0,.ptr 1700000007 0 0 0,.ptr 1700000005 0 0 0,.ptr 1700000006 0 0 0,.ptr 1700000009 0 0 0]
  (fun r m'=>r=eB (bt m fK n c t).2/\m'=[(1700000008,.box 0 [.ref 1700000010 (bt m fK n c t).1.af 0 c.length]),(1700000010,.row (bt m fK n c t).1.af ⟨1,false⟩ true ((bt m fK n c t).1.zs.map eI)),(1700000004,.box 0 [eI m.ah,eI m.aq,eI m.step,eI m.same,eI m.least]),(1700000007,.box 0 [.cy 228 [.ptr 1500000005 0 0 0]]),(1700000005,.box 0 [.val (.slice none 0 0)]),(1700000006,.box 0 [.val .nilFunc]),(1700000009,.box 0 [.cy 262 [.ptr 1700000008 0 0 0,.ptr 1700000004 0 0 0,.ptr 1700000007 0 0 0,.ptr 1700000005 0 0 0,.ptr 1700000006 0 0 0,.ptr 1700000009 0 0 0]]),(1500000005,.box 0 [eI (bt m fK n c t).1.s])]):=by
 intro n;have ⟨⟨zO,zP⟩,hd1,hd2⟩:=aO hm;induction n with
 |zero=>
  intro c t hl hc hz hs;have hk:((c.length:Int)==m.ah)=true:=beq_iff_eq.2 (by omega);have ht:bR c.length (uq8 eI t.zs)=uq8 eI c:=by rw [←uq9,hz.1]
  have hzl:c.length<=(uq8 eI t.zs).length:=by simpa using hz.2
  refine fN.dM 91 [.tmp 8] func262 (hv:= ?_);simp -dsimp -implicitDefEqProofs only [go_sem,hk];refine ak.ly 8 mixed rfl ?_;simp -dsimp -implicitDefEqProofs only [hZ,cf,uq2,uq3];have sR:=iE c (by omega);rcases hq:decide ((bq c c.length:Int)<m.least) with _|_
  . have hq':=of_decide_eq_false hq;have eW:bt m fK 0 c t=(⟨t.af,t.zs,(fK t.s c).1⟩,(fK t.s c).2):=by rw [bt,if_neg hq']
    rw [eW];simp -dsimp -implicitDefEqProofs only [go_sem,ht,uq3];refine ⟨hz.2,?_⟩;(refine an (sR) ?_;try simp -dsimp -implicitDefEqProofs only [go_sem, *]);refine ⟨by exact rfl,hz.2,?_⟩;refine c7 (Xw c t.af (t.zs.map eI) t.s (by omega) ht (by omega)) ⟨⟨?_,?_⟩,?_,?_⟩ ?_
    . simp -dsimp -implicitDefEqProofs only [go_sem]
    . simp -dsimp -implicitDefEqProofs only [go_sem];simp
    . simp -dsimp -implicitDefEqProofs only [go_sem]
    . simp -dsimp -implicitDefEqProofs only [go_sem];simp
    rintro r m' ⟨hr,hm'⟩;rw [hr,hm'];simp -dsimp -implicitDefEqProofs only [go_sem];refine ⟨_,rfl,aN ?_ ?_⟩
    . simp -dsimp -implicitDefEqProofs only [go_sem]
    simp -dsimp -implicitDefEqProofs only [go_sem];simp [ao,au,ct]
  have hq':=oT hq;have eW:bt m fK 0 c t=(t,true):=by rw [bt,if_pos hq']
  rw [eW];simp -dsimp -implicitDefEqProofs only [go_sem,ht,uq3];refine ⟨hz.2,?_⟩;(refine an (sR) ?_;try simp -dsimp -implicitDefEqProofs only [go_sem, *]);refine ⟨by exact rfl,_,rfl,aN ?_ ?_⟩
  . simp -dsimp -implicitDefEqProofs only [go_sem]
  simp -dsimp -implicitDefEqProofs only [go_sem];simp [ao,au,ct]
 |succ n ih=>
  intro c t hl hc hz hs;have hk:((c.length:Int)==m.ah)=false:=beq_eq_false_iff_ne.2 (by omega);refine fN.dM 91 [.tmp 8] func262 (hv:= ?_);simp -dsimp -implicitDefEqProofs only [go_sem,hk];refine ak.up [0,1,2,5,6,9,10] [47,61,69,70,72,84] [1700000008,1700000010,1500000005] m.aq.toNat (fun i=>(eJ (aX m fK n c) t i).2=true) (fun i=>[(11,eI i)]) (fun i=>[(1700000008,.box 0 [.ref 1700000010 (eJ (aX m fK n c) t i).1.af 0 c.length]),(1700000010,.row (eJ (aX m fK n c) t i).1.af ⟨1,false⟩ true ((eJ (aX m fK n c) t i).1.zs.map eI)),(1500000005,.box 0 [eI (eJ (aX m fK n c) t i).1.s])]) rfl ?_ rfl (fun i hi hI=> ?_) (fun hI=> ?_)
  . simp -dsimp -implicitDefEqProofs only [go_sem];simp [eJ]
  . have hu:DS c (eJ (aX m fK n c) t i).1:=pN hz i;have hb:=vY hm (yB hm (f:=fK) (fun s k=>⟨(by show s<=s+1;omega),Int.le_refl _⟩) n) t i (c:=c);have hp:(0:Int)<8^n:=Int.pow_pos (by decide);have h8:(i:Int)*8^n<=7*8^n:=Int.mul_le_mul_of_nonneg_right (by omega) (by omega);have h9:(8:Int)^(n+1)=8*8^n:=by rw [Int.pow_succ,Int.mul_comm]
    have hlt:decide ((i:Int)<m.aq)=true:=dT (by omega);have hS:=iX hI;have cF:(aX m fK n c i (eJ (aX m fK n c) t i).1).2=false->bt m fK (n+1) c t=aX m fK n c i (eJ (aX m fK n c) t i).1:=fun h=>by rw [←hS] at h ⊢;rw [dS,o1 h m.aq.toNat (by omega)]
    rw [hS];clear hS hI;generalize (eJ (aX m fK n c) t i).1=u at*;obtain ⟨hu1,hu2⟩:=hu;have htk:bR c.length (uq8 eI u.zs)=uq8 eI c:=by rw [←uq9,hu1]
    have ku:0<=u.s/\u.s+8^n<=1000000:=by omega
    have hcl:c.length<=6:=by omega
    have hih:=ih (c++[(i:Int)]) ⟨u.af+1,c++[(i:Int)],u.s⟩ (by simp;omega) (fun x hx=>by
     rcases dD.1 hx with h|h
     . exact hc x h
     simp at h;omega) ⟨cK,cH _⟩ ku
    simp only [uq7,List.length_cons,List.length_nil,Nat.zero_add] at hih;have cO:=kC (c++[(i:Int)]) (by simp) (by simp;omega);simp only [uq7,List.length_cons,List.length_nil,Nat.zero_add,Nat.add_sub_cancel] at cO;have ot:uq8 eI c++[eI (i:Int)]=uq8 eI (c++[(i:Int)]):=by simp
    have l4:bP m c i=(c.isEmpty|| !decide (fg ((i:Int)-c.getD (c.length-1) 0)>m.step)):=by
     unfold bP;congr 1;by_cases h:fg ((i:Int)-c.getD (c.length-1) 0)<=m.step
     . rw [decide_eq_true h,decide_eq_false (by omega)];rfl
     rw [decide_eq_false h,decide_eq_true (by omega)];rfl
    have dK:gb m c i= !decide ((ba (c++[(i:Int)]) c.length:Int)>m.same):=by
     unfold gb;by_cases h:(ba (c++[(i:Int)]) c.length:Int)<=m.same
     . rw [decide_eq_true h,decide_eq_false (by omega)];rfl
     rw [decide_eq_false h,decide_eq_true (by omega)];rfl
    simp -dsimp -implicitDefEqProofs only [pz,bg,bj,aY,↓reduceIte,aP];simp -dsimp -implicitDefEqProofs only [go_sem,hlt];refine ak.draw mixed rfl ?_;have hfn:rz pG 216 .neq=some false:=rfl;rcases hk0:decide ((c.length:Int)>0) with _|_
    . have hce:c=[]:=by
       have:=of_decide_eq_false hk0;exact List.eq_nil_of_length_eq_zero (by omega)
      have hsT:bP m c i=true:=by rw [hce];rfl
      clear hce;simp -dsimp -implicitDefEqProofs only [go_sem,hfn,hk0];refine ⟨by exact rfl,hu2,by omega,?_⟩;refine ak.ly 13 mixed rfl ?_;simp -dsimp -implicitDefEqProofs only [hZ,cf,uq2,uq3];have htl:bR (c.length+1) (uq8 eI (c++[(i:Int)]))=uq8 eI (c++[(i:Int)]):=cP (by simp);rcases hq2:decide ((ba (c++[(i:Int)]) c.length:Int)>m.same) with _|_
      . have hcB:aX m fK n c i u=bt m fK n (c++[(i:Int)]) ⟨u.af+1,c++[(i:Int)],u.s⟩:=by rw [aX,if_pos hsT,if_pos (by rw [dK,hq2];rfl),hu1]
        rw [hcB] at cF ⊢;clear hcB;generalize bt m fK n (c++[(i:Int)]) ⟨u.af+1,c++[(i:Int)],u.s⟩=w at*;obtain ⟨w,b⟩:=w;simp -dsimp -implicitDefEqProofs only [go_sem,htk,ot,htl];(refine an (cO) ?_;try simp -dsimp -implicitDefEqProofs only [go_sem, *]);refine ⟨by exact rfl,?_⟩;refine c7 hih ⟨⟨?_,?_⟩,?_,?_⟩ ?_
        . simp -dsimp -implicitDefEqProofs only [go_sem]
        . simp -dsimp -implicitDefEqProofs only [go_sem];simp [ao,au,ct]
        . simp -dsimp -implicitDefEqProofs only [go_sem]
        . simp -dsimp -implicitDefEqProofs only [go_sem];simp
        rintro r m' ⟨hr,hm'⟩;rw [hr,hm'];clear hr hm';cases b with
        |false=>
         rw [cF rfl];simp -dsimp -implicitDefEqProofs only [go_sem];refine ⟨by omega,_,rfl,aN ?_ ?_⟩
         . simp -dsimp -implicitDefEqProofs only [go_sem]
         simp -dsimp -implicitDefEqProofs only [go_sem];simp [ao,au,ct]
        |true=>
         simp -dsimp -implicitDefEqProofs only [go_sem];exact ⟨by omega,⟨by omega,by omega⟩,by simp⟩
      have hcB:aX m fK n c i u=(⟨u.af+1,c++[(i:Int)],u.s⟩,true):=by rw [aX,if_pos hsT,if_neg (by rw [dK,hq2];exact fun h=>by cases h),hu1]
      rw [hcB];clear hcB cF;simp -dsimp -implicitDefEqProofs only [go_sem,htk,ot,htl];(refine an (cO) ?_;try simp -dsimp -implicitDefEqProofs only [go_sem, *]);exact ⟨by exact rfl,by omega,⟨by omega,by omega⟩,by simp⟩
    have hkp:=oT hk0;have hla:c.getD (c.length-1) 0=c[c.length-1]:=by simp [uq4,show c.length-1<c.length by omega]
    have kh:(uq8 eI u.zs)[c.length-1]? =some (eI (c.getD (c.length-1) 0)):=by
     have h1:(bR c.length (uq8 eI u.zs))[c.length-1]? =(uq8 eI u.zs)[c.length-1]? :=by rw [List.getElem?_take];simp;omega
     rw [←h1,htk,hla];simp [show c.length-1<c.length by omega]
    have hlb:=hc _ (uq6 (show c.length-1<c.length by omega));rw [←hla] at hlb;generalize c.getD (c.length-1) 0=z at*;clear hla;have e1:((c.length:Int)-1).toNat=c.length-1:=by omega
    have p5:=ju ((i:Int)-z) (by omega);rcases hq:decide (fg ((i:Int)-z)>m.step) with _|_
    . have hsT:bP m c i=true:=by rw [l4,hq];simp
      simp -dsimp -implicitDefEqProofs only [go_sem,hfn,hk0,e1,kh];refine ⟨⟨by omega,by omega⟩,⟨by omega,by omega⟩,⟨by omega,by omega⟩,?_⟩;(refine an (p5) ?_;try simp -dsimp -implicitDefEqProofs only [go_sem, *]);refine ⟨by exact rfl,by omega,?_⟩;refine ak.ly 13 mixed rfl ?_;simp -dsimp -implicitDefEqProofs only [hZ,cf,uq2,uq3];have htl:bR (c.length+1) (uq8 eI (c++[(i:Int)]))=uq8 eI (c++[(i:Int)]):=cP (by simp);rcases hq2:decide ((ba (c++[(i:Int)]) c.length:Int)>m.same) with _|_
      . have hcB:aX m fK n c i u=bt m fK n (c++[(i:Int)]) ⟨u.af+1,c++[(i:Int)],u.s⟩:=by rw [aX,if_pos hsT,if_pos (by rw [dK,hq2];rfl),hu1]
        rw [hcB] at cF ⊢;clear hcB;generalize bt m fK n (c++[(i:Int)]) ⟨u.af+1,c++[(i:Int)],u.s⟩=w at*;obtain ⟨w,b⟩:=w;simp -dsimp -implicitDefEqProofs only [go_sem,htl];(refine an (cO) ?_;try simp -dsimp -implicitDefEqProofs only [go_sem, *]);refine ⟨by exact rfl,?_⟩;refine c7 hih ⟨⟨?_,?_⟩,?_,?_⟩ ?_
        . simp -dsimp -implicitDefEqProofs only [go_sem]
        . simp -dsimp -implicitDefEqProofs only [go_sem];simp [ao,au,ct]
        . simp -dsimp -implicitDefEqProofs only [go_sem]
        . simp -dsimp -implicitDefEqProofs only [go_sem];simp
        rintro r m' ⟨hr,hm'⟩;rw [hr,hm'];clear hr hm';cases b with
        |false=>
         rw [cF rfl];simp -dsimp -implicitDefEqProofs only [go_sem];refine ⟨by omega,_,rfl,aN ?_ ?_⟩
         . simp -dsimp -implicitDefEqProofs only [go_sem]
         simp -dsimp -implicitDefEqProofs only [go_sem];simp [ao,au,ct]
        |true=>
         simp -dsimp -implicitDefEqProofs only [go_sem];exact ⟨by omega,⟨by omega,by omega⟩,by simp⟩
      have hcB:aX m fK n c i u=(⟨u.af+1,c++[(i:Int)],u.s⟩,true):=by rw [aX,if_pos hsT,if_neg (by rw [dK,hq2];exact fun h=>by cases h),hu1]
      rw [hcB];clear hcB cF;simp -dsimp -implicitDefEqProofs only [go_sem,htl];(refine an (cO) ?_;try simp -dsimp -implicitDefEqProofs only [go_sem, *]);exact ⟨by exact rfl,by omega,⟨by omega,by omega⟩,by simp⟩
    have hsF:bP m c i=false:=by
     rw [l4,hq];cases c with
     |nil=>simp at hkp
     |cons=>rfl
    have hcB:aX m fK n c i u=(u,true):=by rw [aX,if_neg (by rw [hsF];exact fun h=>by cases h)]
    rw [hcB];clear hcB cF;simp -dsimp -implicitDefEqProofs only [go_sem,hfn,hk0,e1,kh];refine ⟨⟨by omega,by omega⟩,⟨by omega,by omega⟩,⟨by omega,by omega⟩,?_⟩;(refine an (p5) ?_;try simp -dsimp -implicitDefEqProofs only [go_sem, *]);exact ⟨by exact rfl,⟨by omega,by omega⟩,by simp⟩
  simp -dsimp -implicitDefEqProofs only [pz,bg,bj,aY,↓reduceIte,aP];have hlt:decide (((m.aq.toNat:Nat):Int)<m.aq)=false:=dF (by omega);simp -dsimp -implicitDefEqProofs only [go_sem,hlt];rw [dS];refine ⟨_,⟨by rw [hI],rfl⟩,aN ?_ ?_⟩
  . simp -dsimp -implicitDefEqProofs only [go_sem]
  simp -dsimp -implicitDefEqProofs only [go_sem];simp [ao,au,ct]
theorem Xy (key:lI) (WA:key.length<=1048576) (c:lI) (af:Nat) (ys:lA) (s:Int) (hc:c.length<=6) (hy:ys.take c.length=c.map eI) (hs:0<=s/\s<=1000000):
 fN pG 226 [(1700000010,.row af ⟨1,false⟩ true ys),(1500000003,.box 0 [aM key]),(1500000007,.box 0 [eI s])] [.ref 1700000010 af 0 c.length,.ptr 1500000003 0 0 0,.ptr 1500000007 0 0 0]
  (fun r m'=>r=eB ((cB key) s c).2/\m'=[(1700000010,.row af ⟨1,false⟩ true ys),(1500000003,.box 0 [aM key]),(1500000007,.box 0 [eI ((cB key) s c).1])]):=by
 refine fN.dM 10 [.tmp 4] func226 (hv:= ?_);have heq:=F6 c key (by omega);have hyl:c.length<=ys.length:=by have:=congrArg List.length hy;simp at this;omega
 by_cases hk:c=key
 . rw [decide_eq_true hk] at heq;have hr:cB key s c=(s,false):=if_pos hk;rw [hr];clear hr hk;simp -dsimp -implicitDefEqProofs only [go_sem,hy]
   repeat' first
    |(with_reducible refine ai ?_ ?_)
    |(refine ab (heq) ?_;try simp -dsimp -implicitDefEqProofs only [go_sem, *])
   all_goals first
    |exact hyl
    |(refine ⟨_,rfl,aN ?_ ?_⟩
      . simp -dsimp -implicitDefEqProofs only [go_sem]
      simp -dsimp -implicitDefEqProofs only [go_sem]
      simp)
    |skip
 rw [decide_eq_false hk] at heq;have hr:cB key s c=(s+1,true):=if_neg hk;rw [hr];clear hr hk;simp -dsimp -implicitDefEqProofs only [go_sem,hy]
 repeat' first
  |(with_reducible refine ai ?_ ?_)
  |(refine ab (heq) ?_;try simp -dsimp -implicitDefEqProofs only [go_sem, *])
 all_goals first
  |exact hyl
  |exact ⟨by omega,by omega⟩
  |(refine ⟨_,rfl,aN ?_ ?_⟩
    . simp -dsimp -implicitDefEqProofs only [go_sem]
    simp -dsimp -implicitDefEqProofs only [go_sem]
    simp)
  |skip
theorem Xz (key:lI) (WA:key.length<=1048576) (m:aL) (hm:a6 m=true):∀(n:Nat) (c:lI) (t:KS Int),(c.length:Int)+n=m.ah->(∀x∈c,0<=x/\x<=7)->DS c t->(0<=t.s/\t.s+8^n<=1000000)→
 fN pG 262 [(1700000008,.box 0 [.ref 1700000010 t.af 0 c.length]),(1700000010,.row t.af ⟨1,false⟩ true (t.zs.map eI)),(1700000004,.box 0 [eI m.ah,eI m.aq,eI m.step,eI m.same,eI m.least]),(1700000007,.box 0 [.cy 226 [.ptr 1500000003 0 0 0,.ptr 1500000007 0 0 0]]),(1700000005,.box 0 [.val (.slice none 0 0)]),(1700000006,.box 0 [.val .nilFunc]),(1700000009,.box 0 [.cy 262 [.ptr 1700000008 0 0 0,.ptr 1700000004 0 0 0,.ptr 1700000007 0 0 0,.ptr 1700000005 0 0 0,.ptr 1700000006 0 0 0,.ptr 1700000009 0 0 0]]),(1500000003,.box 0 [aM key]),(1500000007,.box 0 [eI t.s])] [eB false,.ptr 1700000008 0 0 0,.ptr 1700000004 0 0 0,.ptr 1700000007 0 0 0,.ptr 1700000005 0 0 0,.ptr 1700000006 0 0 0,.ptr 1700000009 0 0 0]
  (fun r m'=>r=eB (bt m (cB key) n c t).2/\m'=[(1700000008,.box 0 [.ref 1700000010 (bt m (cB key) n c t).1.af 0 c.length]),(1700000010,.row (bt m (cB key) n c t).1.af ⟨1,false⟩ true ((bt m (cB key) n c t).1.zs.map eI)),(1700000004,.box 0 [eI m.ah,eI m.aq,eI m.step,eI m.same,eI m.least]),(1700000007,.box 0 [.cy 226 [.ptr 1500000003 0 0 0,.ptr 1500000007 0 0 0]]),(1700000005,.box 0 [.val (.slice none 0 0)]),(1700000006,.box 0 [.val .nilFunc]),(1700000009,.box 0 [.cy 262 [.ptr 1700000008 0 0 0,.ptr 1700000004 0 0 0,.ptr 1700000007 0 0 0,.ptr 1700000005 0 0 0,.ptr 1700000006 0 0 0,.ptr 1700000009 0 0 0]]),(1500000003,.box 0 [aM key]),(1500000007,.box 0 [eI (bt m (cB key) n c t).1.s])]):=by
 intro n;have ⟨⟨zO,zP⟩,hd1,hd2⟩:=aO hm;induction n with
 |zero=>
  intro c t hl hc hz hs;have hk:((c.length:Int)==m.ah)=true:=beq_iff_eq.2 (by omega);have ht:bR c.length (uq8 eI t.zs)=uq8 eI c:=by rw [←uq9,hz.1]
  have hzl:c.length<=(uq8 eI t.zs).length:=by simpa using hz.2
  refine fN.dM 91 [.tmp 8] func262 (hv:= ?_);simp -dsimp -implicitDefEqProofs only [go_sem,hk];refine ak.ly 8 mixed rfl ?_;simp -dsimp -implicitDefEqProofs only [hZ,cf,uq2,uq3];have sR:=iE c (by omega);rcases hq:decide ((bq c c.length:Int)<m.least) with _|_
  . have hq':=of_decide_eq_false hq;have eW:bt m (cB key) 0 c t=(⟨t.af,t.zs,((cB key) t.s c).1⟩,((cB key) t.s c).2):=by rw [bt,if_neg hq']
    rw [eW];simp -dsimp -implicitDefEqProofs only [go_sem,ht,uq3];refine ⟨hz.2,?_⟩;(refine an (sR) ?_;try simp -dsimp -implicitDefEqProofs only [go_sem, *]);refine ⟨by exact rfl,hz.2,?_⟩;refine c7 (Xy key WA c t.af (t.zs.map eI) t.s (by omega) ht (by omega)) ⟨⟨?_,?_⟩,?_,?_⟩ ?_
    . simp -dsimp -implicitDefEqProofs only [go_sem]
    . simp -dsimp -implicitDefEqProofs only [go_sem];simp
    . simp -dsimp -implicitDefEqProofs only [go_sem]
    . simp -dsimp -implicitDefEqProofs only [go_sem];simp
    rintro r m' ⟨hr,hm'⟩;rw [hr,hm'];simp -dsimp -implicitDefEqProofs only [go_sem];refine ⟨_,rfl,aN ?_ ?_⟩
    . simp -dsimp -implicitDefEqProofs only [go_sem]
    simp -dsimp -implicitDefEqProofs only [go_sem];simp [ao,au,ct]
  have hq':=oT hq;have eW:bt m (cB key) 0 c t=(t,true):=by rw [bt,if_pos hq']
  rw [eW];simp -dsimp -implicitDefEqProofs only [go_sem,ht,uq3];refine ⟨hz.2,?_⟩;(refine an (sR) ?_;try simp -dsimp -implicitDefEqProofs only [go_sem, *]);refine ⟨by exact rfl,_,rfl,aN ?_ ?_⟩
  . simp -dsimp -implicitDefEqProofs only [go_sem]
  simp -dsimp -implicitDefEqProofs only [go_sem];simp [ao,au,ct]
 |succ n ih=>
  intro c t hl hc hz hs;have hk:((c.length:Int)==m.ah)=false:=beq_eq_false_iff_ne.2 (by omega);refine fN.dM 91 [.tmp 8] func262 (hv:= ?_);simp -dsimp -implicitDefEqProofs only [go_sem,hk];refine ak.up [0,1,2,5,6,9,10] [47,61,69,70,72,84] [1700000008,1700000010,1500000007] m.aq.toNat (fun i=>(eJ (aX m (cB key) n c) t i).2=true) (fun i=>[(11,eI i)]) (fun i=>[(1700000008,.box 0 [.ref 1700000010 (eJ (aX m (cB key) n c) t i).1.af 0 c.length]),(1700000010,.row (eJ (aX m (cB key) n c) t i).1.af ⟨1,false⟩ true ((eJ (aX m (cB key) n c) t i).1.zs.map eI)),(1500000007,.box 0 [eI (eJ (aX m (cB key) n c) t i).1.s])]) rfl ?_ rfl (fun i hi hI=> ?_) (fun hI=> ?_)
  . simp -dsimp -implicitDefEqProofs only [go_sem];simp [eJ]
  . have hu:DS c (eJ (aX m (cB key) n c) t i).1:=pN hz i;have hb:=vY hm (yB hm (f:=(cB key)) (fun s k=>by unfold cB;split;exact ⟨Int.le_refl _,(by show s<=s+1;omega)⟩;exact ⟨(by show s<=s+1;omega),Int.le_refl _⟩) n) t i (c:=c);have hp:(0:Int)<8^n:=Int.pow_pos (by decide);have h8:(i:Int)*8^n<=7*8^n:=Int.mul_le_mul_of_nonneg_right (by omega) (by omega);have h9:(8:Int)^(n+1)=8*8^n:=by rw [Int.pow_succ,Int.mul_comm]
    have hlt:decide ((i:Int)<m.aq)=true:=dT (by omega);have hS:=iX hI;have cF:(aX m (cB key) n c i (eJ (aX m (cB key) n c) t i).1).2=false->bt m (cB key) (n+1) c t=aX m (cB key) n c i (eJ (aX m (cB key) n c) t i).1:=fun h=>by rw [←hS] at h ⊢;rw [dS,o1 h m.aq.toNat (by omega)]
    rw [hS];clear hS hI;generalize (eJ (aX m (cB key) n c) t i).1=u at*;obtain ⟨hu1,hu2⟩:=hu;have htk:bR c.length (uq8 eI u.zs)=uq8 eI c:=by rw [←uq9,hu1]
    have ku:0<=u.s/\u.s+8^n<=1000000:=by omega
    have hcl:c.length<=6:=by omega
    have hih:=ih (c++[(i:Int)]) ⟨u.af+1,c++[(i:Int)],u.s⟩ (by simp;omega) (fun x hx=>by
     rcases dD.1 hx with h|h
     . exact hc x h
     simp at h;omega) ⟨cK,cH _⟩ ku
    simp only [uq7,List.length_cons,List.length_nil,Nat.zero_add] at hih;have cO:=kC (c++[(i:Int)]) (by simp) (by simp;omega);simp only [uq7,List.length_cons,List.length_nil,Nat.zero_add,Nat.add_sub_cancel] at cO;have ot:uq8 eI c++[eI (i:Int)]=uq8 eI (c++[(i:Int)]):=by simp
    have l4:bP m c i=(c.isEmpty|| !decide (fg ((i:Int)-c.getD (c.length-1) 0)>m.step)):=by
     unfold bP;congr 1;by_cases h:fg ((i:Int)-c.getD (c.length-1) 0)<=m.step
     . rw [decide_eq_true h,decide_eq_false (by omega)];rfl
     rw [decide_eq_false h,decide_eq_true (by omega)];rfl
    have dK:gb m c i= !decide ((ba (c++[(i:Int)]) c.length:Int)>m.same):=by
     unfold gb;by_cases h:(ba (c++[(i:Int)]) c.length:Int)<=m.same
     . rw [decide_eq_true h,decide_eq_false (by omega)];rfl
     rw [decide_eq_false h,decide_eq_true (by omega)];rfl
    simp -dsimp -implicitDefEqProofs only [pz,bg,bj,aY,↓reduceIte,aP];simp -dsimp -implicitDefEqProofs only [go_sem,hlt];refine ak.draw mixed rfl ?_;have hfn:rz pG 216 .neq=some false:=rfl;rcases hk0:decide ((c.length:Int)>0) with _|_
    . have hce:c=[]:=by
       have:=of_decide_eq_false hk0;exact List.eq_nil_of_length_eq_zero (by omega)
      have hsT:bP m c i=true:=by rw [hce];rfl
      clear hce;simp -dsimp -implicitDefEqProofs only [go_sem,hfn,hk0];refine ⟨by exact rfl,hu2,by omega,?_⟩;refine ak.ly 13 mixed rfl ?_;simp -dsimp -implicitDefEqProofs only [hZ,cf,uq2,uq3];have htl:bR (c.length+1) (uq8 eI (c++[(i:Int)]))=uq8 eI (c++[(i:Int)]):=cP (by simp);rcases hq2:decide ((ba (c++[(i:Int)]) c.length:Int)>m.same) with _|_
      . have hcB:aX m (cB key) n c i u=bt m (cB key) n (c++[(i:Int)]) ⟨u.af+1,c++[(i:Int)],u.s⟩:=by rw [aX,if_pos hsT,if_pos (by rw [dK,hq2];rfl),hu1]
        rw [hcB] at cF ⊢;clear hcB;generalize bt m (cB key) n (c++[(i:Int)]) ⟨u.af+1,c++[(i:Int)],u.s⟩=w at*;obtain ⟨w,b⟩:=w;simp -dsimp -implicitDefEqProofs only [go_sem,htk,ot,htl];(refine an (cO) ?_;try simp -dsimp -implicitDefEqProofs only [go_sem, *]);refine ⟨by exact rfl,?_⟩;refine c7 hih ⟨⟨?_,?_⟩,?_,?_⟩ ?_
        . simp -dsimp -implicitDefEqProofs only [go_sem]
        . simp -dsimp -implicitDefEqProofs only [go_sem];simp [ao,au,ct]
        . simp -dsimp -implicitDefEqProofs only [go_sem]
        . simp -dsimp -implicitDefEqProofs only [go_sem];simp
        rintro r m' ⟨hr,hm'⟩;rw [hr,hm'];clear hr hm';cases b with
        |false=>
         rw [cF rfl];simp -dsimp -implicitDefEqProofs only [go_sem];refine ⟨by omega,_,rfl,aN ?_ ?_⟩
         . simp -dsimp -implicitDefEqProofs only [go_sem]
         simp -dsimp -implicitDefEqProofs only [go_sem];simp [ao,au,ct]
        |true=>
         simp -dsimp -implicitDefEqProofs only [go_sem];exact ⟨by omega,⟨by omega,by omega⟩,by simp⟩
      have hcB:aX m (cB key) n c i u=(⟨u.af+1,c++[(i:Int)],u.s⟩,true):=by rw [aX,if_pos hsT,if_neg (by rw [dK,hq2];exact fun h=>by cases h),hu1]
      rw [hcB];clear hcB cF;simp -dsimp -implicitDefEqProofs only [go_sem,htk,ot,htl];(refine an (cO) ?_;try simp -dsimp -implicitDefEqProofs only [go_sem, *]);exact ⟨by exact rfl,by omega,⟨by omega,by omega⟩,by simp⟩
    have hkp:=oT hk0;have hla:c.getD (c.length-1) 0=c[c.length-1]:=by simp [uq4,show c.length-1<c.length by omega]
    have kh:(uq8 eI u.zs)[c.length-1]? =some (eI (c.getD (c.length-1) 0)):=by
     have h1:(bR c.length (uq8 eI u.zs))[c.length-1]? =(uq8 eI u.zs)[c.length-1]? :=by rw [List.getElem?_take];simp;omega
     rw [←h1,htk,hla];simp [show c.length-1<c.length by omega]
    have hlb:=hc _ (uq6 (show c.length-1<c.length by omega));rw [←hla] at hlb;generalize c.getD (c.length-1) 0=z at*;clear hla;have e1:((c.length:Int)-1).toNat=c.length-1:=by omega
    have p5:=ju ((i:Int)-z) (by omega);rcases hq:decide (fg ((i:Int)-z)>m.step) with _|_
    . have hsT:bP m c i=true:=by rw [l4,hq];simp
      simp -dsimp -implicitDefEqProofs only [go_sem,hfn,hk0,e1,kh];refine ⟨⟨by omega,by omega⟩,⟨by omega,by omega⟩,⟨by omega,by omega⟩,?_⟩;(refine an (p5) ?_;try simp -dsimp -implicitDefEqProofs only [go_sem, *]);refine ⟨by exact rfl,by omega,?_⟩;refine ak.ly 13 mixed rfl ?_;simp -dsimp -implicitDefEqProofs only [hZ,cf,uq2,uq3];have htl:bR (c.length+1) (uq8 eI (c++[(i:Int)]))=uq8 eI (c++[(i:Int)]):=cP (by simp);rcases hq2:decide ((ba (c++[(i:Int)]) c.length:Int)>m.same) with _|_
      . have hcB:aX m (cB key) n c i u=bt m (cB key) n (c++[(i:Int)]) ⟨u.af+1,c++[(i:Int)],u.s⟩:=by rw [aX,if_pos hsT,if_pos (by rw [dK,hq2];rfl),hu1]
        rw [hcB] at cF ⊢;clear hcB;generalize bt m (cB key) n (c++[(i:Int)]) ⟨u.af+1,c++[(i:Int)],u.s⟩=w at*;obtain ⟨w,b⟩:=w;simp -dsimp -implicitDefEqProofs only [go_sem,htl];(refine an (cO) ?_;try simp -dsimp -implicitDefEqProofs only [go_sem, *]);refine ⟨by exact rfl,?_⟩;refine c7 hih ⟨⟨?_,?_⟩,?_,?_⟩ ?_
        . simp -dsimp -implicitDefEqProofs only [go_sem]
        . simp -dsimp -implicitDefEqProofs only [go_sem];simp [ao,au,ct]
        . simp -dsimp -implicitDefEqProofs only [go_sem]
        . simp -dsimp -implicitDefEqProofs only [go_sem];simp
        rintro r m' ⟨hr,hm'⟩;rw [hr,hm'];clear hr hm';cases b with
        |false=>
         rw [cF rfl];simp -dsimp -implicitDefEqProofs only [go_sem];refine ⟨by omega,_,rfl,aN ?_ ?_⟩
         . simp -dsimp -implicitDefEqProofs only [go_sem]
         simp -dsimp -implicitDefEqProofs only [go_sem];simp [ao,au,ct]
        |true=>
         simp -dsimp -implicitDefEqProofs only [go_sem];exact ⟨by omega,⟨by omega,by omega⟩,by simp⟩
      have hcB:aX m (cB key) n c i u=(⟨u.af+1,c++[(i:Int)],u.s⟩,true):=by rw [aX,if_pos hsT,if_neg (by rw [dK,hq2];exact fun h=>by cases h),hu1]
      rw [hcB];clear hcB cF;simp -dsimp -implicitDefEqProofs only [go_sem,htl];(refine an (cO) ?_;try simp -dsimp -implicitDefEqProofs only [go_sem, *]);exact ⟨by exact rfl,by omega,⟨by omega,by omega⟩,by simp⟩
    have hsF:bP m c i=false:=by
     rw [l4,hq];cases c with
     |nil=>simp at hkp
     |cons=>rfl
    have hcB:aX m (cB key) n c i u=(u,true):=by rw [aX,if_neg (by rw [hsF];exact fun h=>by cases h)]
    rw [hcB];clear hcB cF;simp -dsimp -implicitDefEqProofs only [go_sem,hfn,hk0,e1,kh];refine ⟨⟨by omega,by omega⟩,⟨by omega,by omega⟩,⟨by omega,by omega⟩,?_⟩;(refine an (p5) ?_;try simp -dsimp -implicitDefEqProofs only [go_sem, *]);exact ⟨by exact rfl,⟨by omega,by omega⟩,by simp⟩
  simp -dsimp -implicitDefEqProofs only [pz,bg,bj,aY,↓reduceIte,aP];have hlt:decide (((m.aq.toNat:Nat):Int)<m.aq)=false:=dF (by omega);simp -dsimp -implicitDefEqProofs only [go_sem,hlt];rw [dS];refine ⟨_,⟨by rw [hI],rfl⟩,aN ?_ ?_⟩
  . simp -dsimp -implicitDefEqProofs only [go_sem]
  simp -dsimp -implicitDefEqProofs only [go_sem];simp [ao,au,ct]
theorem yG (m:aL) (hm:a6 m=true):∀(n:Nat) (c:lI),(c.length:Int)+n=m.ah->(∀x∈c,0<=x/\x<=7)->Fn pG 143 [kV m,aM c] true (· =eI (lQ m n c)):=by
 intro n;have ⟨⟨zO,zP⟩,hd1,hd2⟩:=aO hm;induction n with
 |zero=>
  intro c hl hc;refine Fn.av 37 [.tmp 4] func143 (hv:= ?_);have hbe:=lS m c hm (by omega) hc;have hk:((c.length:Int)==m.ah)=true:=beq_iff_eq.2 (by omega);rcases hb:fh m c with _|_
  . have jz:lQ m 0 c=0:=by rw [lQ,if_neg (by rw [hb];exact fun h=>by cases h)]
    rw [hb] at hbe;rw [jz];simp -dsimp -implicitDefEqProofs only [go_sem];(refine ab (hbe) ?_;try simp -dsimp -implicitDefEqProofs only [go_sem, *])
  have jz:=Qc m c hb;rw [hb] at hbe;rw [jz];have hki:=qO c (by omega);rcases hq:decide ((bq c c.length:Int)<m.least) with _|_
  . rw [if_neg (of_decide_eq_false hq)];clear jz hb;simp -dsimp -implicitDefEqProofs only [go_sem];(refine ab (hbe) ?_;try simp -dsimp -implicitDefEqProofs only [go_sem, *]);refine ak.draw mixed rfl ?_;simp -dsimp -implicitDefEqProofs only [go_sem];(refine an (hki) ?_;try simp -dsimp -implicitDefEqProofs only [go_sem, *]);(exact ⟨by exact rfl,rfl⟩)
  rw [if_pos (oT hq)];clear jz hb;simp -dsimp -implicitDefEqProofs only [go_sem];(refine ab (hbe) ?_;try simp -dsimp -implicitDefEqProofs only [go_sem, *]);refine ak.draw mixed rfl ?_;simp -dsimp -implicitDefEqProofs only [go_sem];(refine an (hki) ?_;try simp -dsimp -implicitDefEqProofs only [go_sem, *]);exact rfl
 |succ n ih=>
  intro c hl hc;refine Fn.av 37 [.tmp 4] func143 (hv:= ?_);have hbe:=lS m c hm (by omega) hc;have hk:((c.length:Int)==m.ah)=false:=beq_eq_false_iff_ne.2 (by omega);rcases hb:fh m c with _|_
  . have jz:lQ m (n+1) c=0:=by rw [lQ,if_neg (by rw [hb];exact fun h=>by cases h)]
    rw [hb] at hbe;rw [jz];simp -dsimp -implicitDefEqProofs only [go_sem];(refine ab (hbe) ?_;try simp -dsimp -implicitDefEqProofs only [go_sem, *])
  have jz:=Qd m n c hb;rw [hb] at hbe;rw [jz];clear jz hb;have bd:=sx c (by omega);simp -dsimp -implicitDefEqProofs only [go_sem];(refine ab (hbe) ?_;try simp -dsimp -implicitDefEqProofs only [go_sem, *]);refine ak.up [1,2] [30,32,33,34] [] m.aq.toNat (fun _=>True) (fun i=>[(6,eI i),(5,eI (jV m n c i))]) (fun _=>[]) trivial ?_ rfl (fun i hi _=> ?_) (fun _=> ?_)
  . simp -dsimp -implicitDefEqProofs only [go_sem];try simp [jV]
  . have hih:=ih (c++[(i:Int)]) (by simp;omega) (fun x hx=>by
     rcases dD.1 hx with h|h
     . exact hc x h
     simp at h;omega)
    have hlt:decide ((i:Int)<m.aq)=true:=dT (by omega);have ot:uq8 eI c++[eI (i:Int)]=uq8 eI (c++[(i:Int)]):=by simp
    have htk:bR c.length (uq8 eI c)=uq8 eI c:=cP (by simp);have htl:bR (c.length+1) (uq8 eI (c++[(i:Int)]))=uq8 eI (c++[(i:Int)]):=cP (by simp);have hb1:=yE m hm n c i;have hb2:=Dg m hm n (c++[(i:Int)]);have hp:8^n<=8^6:=cL (by decide) (by omega);have h8:i*8^n<=7*8^n:=Nat.mul_le_mul_right _ (by omega);rw [nK];clear ih;generalize 8^n=p at*;generalize jV m n c i=A at*;generalize lQ m n (c++[(i:Int)])=Bn at*;simp -dsimp -implicitDefEqProofs only [pz,bg,bj,aY,↓reduceIte,aP];simp -dsimp -implicitDefEqProofs only [go_sem,hlt];refine ak.draw mixed rfl ?_;simp -dsimp -implicitDefEqProofs only [go_sem];(refine an (bd) ?_;try simp -dsimp -implicitDefEqProofs only [go_sem, *]);refine ⟨by omega,?_⟩;(refine an (hih) ?_;try simp -dsimp -implicitDefEqProofs only [go_sem, *]);exact ⟨⟨by omega,by omega⟩,by exact rfl,⟨by omega,by omega⟩,by simp,by simp⟩
  have hlt:decide (((m.aq.toNat:Nat):Int)<m.aq)=false:=dF (by omega);simp -dsimp -implicitDefEqProofs only [pz,bg,bj,aY,↓reduceIte,aP];simp -dsimp -implicitDefEqProofs only [go_sem,hlt]
theorem vp (m:aL) (key:lI) (h:key.length<=1048576):Fn pG 174 [kV m,aR [key]] true (· =eI (if a6 m=true then if fault m key=0 then 0 else 2 else 1)):=by
 refine Fn.av 21 [.tmp 4] func174 (hv:= ?_);have hm0:=eR m;rcases hm:a6 m with _|_
 . rw [hm] at hm0;clear hm;simp -dsimp -implicitDefEqProofs only [go_sem];repeat' (refine ab (hm0) ?_;try simp -dsimp -implicitDefEqProofs only [go_sem, *])
   all_goals simp
 have hk:Fn pG 76 [kV m,aM key] true (· =eB (fault m key==0)):=by refine Fn.av 9 [.tmp 4] func76 (hv:= ?_);have hf:=yw m key hm h;simp -dsimp -implicitDefEqProofs only [go_sem];repeat' (refine ab (hf) ?_;try simp -dsimp -implicitDefEqProofs only [go_sem, *])
 rw [hm] at hm0;clear hm;have h01:decide ((0:Int)<((1:Nat):Int))=true:=rfl;have h11:decide (((1:Nat):Int)<((1:Nat):Int))=false:=rfl;rcases hq:(fault m key==0) with _|_
 all_goals
  have hF:=hq;simp only [beq_iff_eq,beq_eq_false_iff_ne] at hF;rw [hq] at hk;simp only [hF,if_true,if_false];clear hq hF;simp -dsimp -implicitDefEqProofs only [go_sem];repeat' (refine ab (hm0) ?_;try simp -dsimp -implicitDefEqProofs only [go_sem, *])
 . refine ak.up [2,10,11] [18] [] 1 (fun i=>i=0) (fun i=>[(12,eI i)]) (fun _=>[]) rfl ?_ rfl (fun i hi hI=> ?_) (fun hI=> ?_)
   . simp -dsimp -implicitDefEqProofs only [go_sem]
   . subst hI;simp -dsimp -implicitDefEqProofs only [pz,bg,bj,aY,↓reduceIte,aP];simp -dsimp -implicitDefEqProofs only [go_sem,h01]
     repeat' first
      |(with_reducible refine ai ?_ ?_)
      |(refine ab (hk) ?_;try simp -dsimp -implicitDefEqProofs only [go_sem, *])
     all_goals first
      |omega
      |skip
   cases hI
 refine ak.up [2,10,11] [18] [] 1 (fun i=>True) (fun i=>[(12,eI i)]) (fun _=>[]) trivial ?_ rfl (fun i hi hI=> ?_) (fun hI=> ?_)
 . simp -dsimp -implicitDefEqProofs only [go_sem]
 . obtain rfl:i=0:=by omega
   simp -dsimp -implicitDefEqProofs only [pz,bg,bj,aY,↓reduceIte,aP];simp -dsimp -implicitDefEqProofs only [go_sem,h01]
   repeat' first
    |(with_reducible refine ai ?_ ?_)
    |(refine ab (hk) ?_;try simp -dsimp -implicitDefEqProofs only [go_sem, *])
   all_goals first
    |omega
    |exact ⟨by omega,by omega⟩
    |rfl
    |skip
 simp -dsimp -implicitDefEqProofs only [pz,bg,bj,aY,↓reduceIte,aP];simp -dsimp -implicitDefEqProofs only [go_sem,h11]
theorem MP (m:aL) (key:lI) (hm:a6 m=true) (hf:fault m key=0):Fn pG 153 [kV m,aM key] true (· =eI (cN m key key.length)):=by
 refine Fn.av 34 [.tmp 4] func153 (hv:= ?_);obtain ⟨hl,hel,_,_⟩:=pO hf;have ⟨⟨zO,zP⟩,hd1,hd2⟩:=aO hm;have hrb:∀i,i<=key.length->cN m key i<=i*8^6:=by
  intro i hi;induction i with
  |zero=>simp [cN]
  |succ i ih=>
   have h1:=ih (by omega);have hx:=hel (key.getD i 0) (by rw [uq4,uq5 (by omega)];exact uq6 _);have h2:=yE m hm (key.length-(i+1)) (key.take i) (key.getD i 0).toNat;have h3:(key.getD i 0).toNat*8^(key.length-(i+1))<=8*8^5:=Nat.mul_le_mul (by omega) (cL (by decide) (by omega));rw [cN,Nat.succ_mul];omega
 simp -dsimp -implicitDefEqProofs only [go_sem];refine ak.up [1,2] [10,27,29,30,31] [] key.length (fun _=>True) (fun i=>[(6,eI i),(5,eI (cN m key i))]) (fun _=>[]) trivial ?_ rfl (fun i hi _=> ?_) (fun _=> ?_)
 . simp -dsimp -implicitDefEqProofs only [go_sem];try simp [cN]
 . have gi:=get_some hi;have li:=aG hi;have hx:=hel key[i] (uq6 hi);have hr1:=hrb i (by omega);have hgd:key.getD i 0=key[i]:=by simp [uq4,hi]
   have lu:cN m key (i+1)=cN m key i+jV m (key.length-(i+1)) (key.take i) key[i].toNat:=by rw [cN,hgd]
   rw [lu];clear lu hgd hrb;have hcl:∀d,jV m (key.length-(i+1)) (key.take i) d<=d*8^5:=fun d=>Nat.le_trans (yE m hm _ _ d) (Nat.mul_le_mul_left _ (cL (by decide) (by omega)));generalize cN m key i=R at*;simp -dsimp -implicitDefEqProofs only [pz,bg,bj,aY,↓reduceIte,aP];simp -dsimp -implicitDefEqProofs only [go_sem,li];refine ak.up [1,2,6] [27,29,30,31] [] key[i].toNat (fun _=>True) (fun d=>[(7,eI d),(5,eI ((R:Int)+jV m (key.length-(i+1)) (key.take i) d))]) (fun _=>[]) trivial ?_ rfl (fun d hd _=> ?_) (fun _=> ?_)
   . simp -dsimp -implicitDefEqProofs only [go_sem];try simp [jV]
   . have hlt:decide ((d:Int)<key[i])=true:=dT (by omega)
     have jz:=yG m hm (key.length-(i+1)) (key.take i++[(d:Int)]) (by simp;omega) (fun x hx2=>by
      rcases dD.1 hx2 with h|h
      . have:=hel x (List.mem_of_mem_take h);omega
      simp at h;omega)
     have bd:=sx (key.take i) (by simp;omega);have htk:bR i (uq8 eI key)=uq8 eI (key.take i):=uq9.symm;have ot:uq8 eI (key.take i)++[eI (d:Int)]=uq8 eI (key.take i++[(d:Int)]):=by simp
     have hlen:(key.take i).length=i:=by simp;omega
     have hb1:=hcl d;have hb2:=Dg m hm (key.length-(i+1)) (key.take i++[(d:Int)]);have hp:8^(key.length-(i+1))<=8^5:=cL (by decide) (by omega);have htl:bR (i+1) (uq8 eI (key.take i++[(d:Int)]))=uq8 eI (key.take i++[(d:Int)]):=cP (by simp;omega);have Zi:bR i (uq8 eI (key.take i))=uq8 eI (key.take i):=cP (by simp;omega);rw [nK];clear hcl hel;generalize hT:key.take i=T at*;generalize jV m (key.length-(i+1)) T d=A at*;generalize lQ m (key.length-(i+1)) (T++[(d:Int)])=Bn at*;generalize 8^(key.length-(i+1))=p at*;simp -dsimp -implicitDefEqProofs only [pz,bg,bj,aY,↓reduceIte,aP];simp -dsimp -implicitDefEqProofs only [go_sem,hlt,gi];refine ⟨by omega,?_⟩;refine ak.draw mixed rfl ?_;simp -dsimp -implicitDefEqProofs only [go_sem,htk];refine ⟨by omega,?_⟩;(refine an (bd) ?_;try simp -dsimp -implicitDefEqProofs only [go_sem, *]);refine ⟨by omega,?_⟩;(refine an (jz) ?_;try simp -dsimp -implicitDefEqProofs only [go_sem, *]);exact ⟨⟨by omega,by omega⟩,by exact rfl,⟨by omega,by omega⟩,by simp,by simp;omega⟩
   have hlt:decide (((key[i].toNat:Nat):Int)<key[i])=false:=dF (by omega);simp -dsimp -implicitDefEqProofs only [pz,bg,bj,aY,↓reduceIte,aP];simp -dsimp -implicitDefEqProofs only [go_sem,hlt,gi];exact ⟨by omega,⟨by omega,by omega⟩,by simp,by simp⟩
 simp -dsimp -implicitDefEqProofs only [pz,bg,bj,aY,↓reduceIte,aP];simp -dsimp -implicitDefEqProofs only [go_sem,aC]
theorem vq (m:aL) (hm:a6 m=true):Fn pG 176 [kV m,.val .nilFunc] true (· =eI (lQ m m.ah.toNat [])):=by
 refine Fn.av 11 [.tmp 4] func176 (hv:= ?_);have vS:=aO hm;have h8:(8:Int)^m.ah.toNat<=8^6:=by
  have:8^m.ah.toNat<=8^6:=cL (by decide) (by omega)
  exact_mod_cast this
 have eW:=Xx m hm m.ah.toNat [] ⟨0,[],0⟩ (by simp;omega) (fun x hx=>by cases hx) ⟨rfl,cH _⟩ ⟨Int.le_refl _,by show (0:Int)+_<=_;omega⟩;have hsp:=(iG m fK m.ah.toNat [] ⟨0,[],0⟩ ⟨rfl,cH _⟩).2.1;rw [BQ] at hsp;have hc:lQ m m.ah.toNat []=(bc m m.ah.toNat []).length:=by rw [lQ,if_pos (show fh m []=true from rfl)]
 rw [hc];simp only [Int.zero_add] at hsp;rw [←hsp];generalize bt m fK m.ah.toNat [] ⟨0,[],0⟩=w at*;simp -dsimp -implicitDefEqProofs only [go_sem];refine cn 900000 16 [] func222 rfl rfl rfl rfl rfl (by exact oT rfl) ?_;simp -dsimp -implicitDefEqProofs only [go_sem];simp only [List.length_nil,List.map_nil] at eW;refine jr 1700000000 eW ⟨?_,?_⟩ ⟨⟨?_,?_⟩,?_,?_⟩ ?_
 . simp -dsimp -implicitDefEqProofs only [go_sem]
 . simp -dsimp -implicitDefEqProofs only [go_sem]
 . simp -dsimp -implicitDefEqProofs only [go_sem]
 . simp -dsimp -implicitDefEqProofs only [go_sem];simp [ao,au,ct]
 . simp -dsimp -implicitDefEqProofs only [go_sem]
 . simp -dsimp -implicitDefEqProofs only [go_sem];simp
 rintro r m' ⟨hr,hm'⟩;rw [hr,hm'];simp -dsimp -implicitDefEqProofs only [go_sem]
theorem Qh (m:aL) (key:lI) (h:key.length<=1048576):Fn pG 175 [kV m,aM key] true (· =if a6 m=true then if fault m key=0 then .aZ [eI (cN m key key.length),eI 0] else .aZ [eI 0,eI 2] else .aZ [eI 0,eI 1]):=by
 refine Fn.av 19 [.tmp 4,.tmp 5] func175 (hv:= ?_);have fw:=vp m key h;have h10:((1:Int) != 0)=true:=rfl;have h20:((2:Int) != 0)=true:=rfl;rcases hm:a6 m with _|_
 . rw [hm] at fw;simp only [Bool.false_eq_true,if_false] at fw ⊢;clear hm;simp -dsimp -implicitDefEqProofs only [go_sem];repeat' (refine ab (fw) ?_;try simp -dsimp -implicitDefEqProofs only [go_sem, *])
 rw [hm] at fw;simp only [if_true] at fw ⊢;by_cases hf:fault m key=0
 . rw [if_pos hf] at fw ⊢;have vS:=aO hm;have h8:(8:Int)^m.ah.toNat<=8^6:=by
    have:8^m.ah.toNat<=8^6:=cL (by decide) (by omega)
    exact_mod_cast this
   have eW:=Xz key h m hm m.ah.toNat [] ⟨0,[],0⟩ (by simp;omega) (fun x hx=>by cases hx) ⟨rfl,cH _⟩ ⟨Int.le_refl _,by show (0:Int)+_<=_;omega⟩;have hsp:=(iG m (cB key) m.ah.toNat [] ⟨0,[],0⟩ ⟨rfl,cH _⟩).2.1;have Ya:=hsp.trans (Dh hf).1;rw [←Ya];clear hsp Ya;generalize bt m (cB key) m.ah.toNat [] ⟨0,[],0⟩=w at*;simp only [List.length_nil,List.map_nil] at eW;clear hm hf h8 vS;simp -dsimp -implicitDefEqProofs only [go_sem];repeat' (refine ab (fw) ?_;try simp -dsimp -implicitDefEqProofs only [go_sem, *])
   refine cn 900000 16 [] func222 rfl rfl rfl rfl rfl (by exact oT rfl) ?_;simp -dsimp -implicitDefEqProofs only [go_sem];refine jr 1700000000 eW ⟨?_,?_⟩ ⟨⟨?_,?_⟩,?_,?_⟩ ?_
   . simp -dsimp -implicitDefEqProofs only [go_sem]
   . simp -dsimp -implicitDefEqProofs only [go_sem]
   . simp -dsimp -implicitDefEqProofs only [go_sem]
   . simp -dsimp -implicitDefEqProofs only [go_sem];simp [ao,au,ct]
   . simp -dsimp -implicitDefEqProofs only [go_sem]
   . simp -dsimp -implicitDefEqProofs only [go_sem];simp
   rintro r m' ⟨hr,hm'⟩;rw [hr,hm'];simp -dsimp -implicitDefEqProofs only [go_sem]
 rw [if_neg hf] at fw ⊢;clear hm hf;simp -dsimp -implicitDefEqProofs only [go_sem];repeat' (refine ab (fw) ?_;try simp -dsimp -implicitDefEqProofs only [go_sem, *])
def dj (f:Nat->Option lI):Nat->Option lI
 |0=>none
 |d+1=>match dj f d with
  |some k=>some k
  |none=>f d
def cA (m:aL):Nat->lI->Option lI
 |0,c=>if fh m c=true/\m.least<=(bq c c.length:Int) then some c else none
 |n+1,c=>if fh m c=true then dj (fun (d:Nat)=>cA m n (c++[(d:Int)])) m.aq.toNat else none
theorem vr {f:Nat->Option lI} {D:Nat} (h:dj f D=none):dj f (D+1)=f D:=by simp [dj,h]
theorem o5 {f:Nat->Option lI} {D:Nat} {k:lI} (h:dj f D=some k):∀E,D<=E->dj f E=some k
 |0,hE=>by rw [show D=0 by omega] at h;cases h
 |E+1,hE=>by
  by_cases e:D=E+1
  . rw [←e];exact h
  simp only [dj];rw [o5 h E (by omega)]
def Tq (o:Option lI):AV:=match o with
 |some k=>.aZ [aM k,eB true]
 |none=>.aZ [.val (.slice none 0 0),eB false]
def tE (m:aL) (n:Nat) (c:lI) (r:AV):Prop:=match cA m n c with
 |some k=>r= .aZ [aM k,eB true]
 |none=>∃x,r= .aZ [x,eB false]/\(x= .val (.slice none 0 0)\/x=aM c)
theorem yH (m:aL) (hm:a6 m=true):∀(n:Nat) (c:lI),(c.length:Int)+n=m.ah->(∀x∈c,0<=x/\x<=7)->Fn pG 87 [kV m,aM c] false (tE m n c):=by
 intro n;have ⟨⟨zO,zP⟩,hd1,hd2⟩:=aO hm;induction n with
 |zero=>
  intro c hl hc;refine Fn.cg 42 [.tmp 4,.tmp 5] func87 (hv:= ?_);have hbe:=lS m c hm (by omega) hc;have hk:((c.length:Int)==m.ah)=true:=beq_iff_eq.2 (by omega);have hki:=qO c (by omega);unfold tE;rcases hb:fh m c with _|_
  . have jz:cA m 0 c=none:=by rw [cA,if_neg (by rw [hb];exact fun h=>by cases h.1)]
    rw [hb] at hbe;rw [jz];clear jz hb;simp -dsimp -implicitDefEqProofs only [go_sem];(refine ab (hbe) ?_;try simp -dsimp -implicitDefEqProofs only [go_sem, *]);exact ⟨_,rfl,.inl rfl⟩
  rw [hb] at hbe;rcases hq:decide ((bq c c.length:Int)≥m.least) with _|_
  . have jz:cA m 0 c=none:=by rw [cA,if_neg (fun h=>by have:=of_decide_eq_false hq;omega)]
    rw [jz];clear jz hb;simp -dsimp -implicitDefEqProofs only [go_sem];(refine ab (hbe) ?_;try simp -dsimp -implicitDefEqProofs only [go_sem, *]);refine ak.draw mixed rfl ?_;simp -dsimp -implicitDefEqProofs only [go_sem];(refine an (hki) ?_;try simp -dsimp -implicitDefEqProofs only [go_sem, *]);exact ⟨by exact rfl,_,rfl,.inr rfl⟩
  have jz:cA m 0 c=some c:=by rw [cA,if_pos ⟨hb,by have:=oT hq;omega⟩]
  rw [jz];clear jz hb;simp -dsimp -implicitDefEqProofs only [go_sem];(refine ab (hbe) ?_;try simp -dsimp -implicitDefEqProofs only [go_sem, *]);refine ak.draw mixed rfl ?_;simp -dsimp -implicitDefEqProofs only [go_sem];(refine an (hki) ?_;try simp -dsimp -implicitDefEqProofs only [go_sem, *]);exact rfl
 |succ n ih=>
  intro c hl hc;refine Fn.cg 42 [.tmp 4,.tmp 5] func87 (hv:= ?_);have hbe:=lS m c hm (by omega) hc;have hk:((c.length:Int)==m.ah)=false:=beq_eq_false_iff_ne.2 (by omega);unfold tE;rcases hb:fh m c with _|_
  . have jz:cA m (n+1) c=none:=by rw [cA,if_neg (by rw [hb];exact fun h=>by cases h)]
    rw [hb] at hbe;rw [jz];clear jz hb;simp -dsimp -implicitDefEqProofs only [go_sem];(refine ab (hbe) ?_;try simp -dsimp -implicitDefEqProofs only [go_sem, *]);exact ⟨_,rfl,.inl rfl⟩
  have jz:cA m (n+1) c=dj (fun (d:Nat)=>cA m n (c++[(d:Int)])) m.aq.toNat:=by rw [cA,if_pos hb]
  rw [hb] at hbe;rw [jz];clear jz hb;have bd:=sx c (by omega);simp -dsimp -implicitDefEqProofs only [go_sem];(refine ab (hbe) ?_;try simp -dsimp -implicitDefEqProofs only [go_sem, *]);refine ak.up [1,2] [33,35,36,37] [] m.aq.toNat (fun i=>dj (fun (d:Nat)=>cA m n (c++[(d:Int)])) i=none) (fun i=>[(6,eI i)]) (fun _=>[]) rfl ?_ rfl (fun i hi hI=> ?_) (fun hI=> ?_)
  . simp -dsimp -implicitDefEqProofs only [go_sem]
  . have hih:=ih (c++[(i:Int)]) (by simp;omega) (fun x hx=>by
     rcases dD.1 hx with h|h
     . exact hc x h
     simp at h;omega)
    have hlt:decide ((i:Int)<m.aq)=true:=dT (by omega);have ot:uq8 eI c++[eI (i:Int)]=uq8 eI (c++[(i:Int)]):=by simp
    have htk:bR c.length (uq8 eI c)=uq8 eI c:=cP (by simp);have htl:bR (c.length+1) (uq8 eI (c++[(i:Int)]))=uq8 eI (c++[(i:Int)]):=cP (by simp);have hnx:=vr hI;have fU:∀k,cA m n (c++[(i:Int)])=some k->dj (fun (d:Nat)=>cA m n (c++[(d:Int)])) m.aq.toNat=some k:=fun k hk=>o5 (hnx.trans hk) _ (by omega);rw [hnx];clear ih hI hnx;unfold tE at hih;generalize cA m n (c++[(i:Int)])=F at*;simp -dsimp -implicitDefEqProofs only [pz,bg,bj,aY,↓reduceIte,aP];simp -dsimp -implicitDefEqProofs only [go_sem,hlt];refine ak.Zu 6 mixed rfl ?_;simp -dsimp -implicitDefEqProofs only [hZ,cf,uq2,uq3];simp -dsimp -implicitDefEqProofs only [go_sem];(refine an (bd) ?_;try simp -dsimp -implicitDefEqProofs only [go_sem, *]);refine ⟨by omega,?_⟩;refine ⟨by exact rfl,?_⟩;refine kQ 34000 1 ⟨1,false⟩ true (uq8 eI (c++[(i:Int)])) hih (by decide) ?_ ?_ fun r hr=> ?_
    . simp -dsimp -implicitDefEqProofs only [go_sem]
    . refine sn ?_ rfl ?_
      . simp -dsimp -implicitDefEqProofs only [go_sem]
      have h:=mO (l:=34000) (v:=1) (sh:=⟨1,false⟩) (ys:=uq8 eI (c++[(i:Int)])) (xs:=[]) (r:=[]) 0 (c.length+1) (by simp) trivial;rw [uq3,htl] at h;exact h
    cases F with
    |some k=>
     rw [fU k rfl];rw [show r= .aZ [aM k,eB true] from hr];clear hr fU;simp -dsimp -implicitDefEqProofs only [go_sem];exact rfl
    |none=>
     clear fU;obtain ⟨x,rfl,hx⟩:=hr;rcases hx with rfl|rfl
     . simp -dsimp -implicitDefEqProofs only [go_sem];exact ⟨by exact rfl,⟨by omega,by omega⟩,by simp⟩
     simp -dsimp -implicitDefEqProofs only [go_sem];exact ⟨by exact rfl,⟨by omega,by omega⟩,by simp⟩
  have hlt:decide (((m.aq.toNat:Nat):Int)<m.aq)=false:=dF (by omega);rw [hI];clear hI;simp -dsimp -implicitDefEqProofs only [pz,bg,bj,aY,↓reduceIte,aP];simp -dsimp -implicitDefEqProofs only [go_sem,hlt];exact ⟨_,rfl,.inl rfl⟩
def fj (m:aL) (c:lI):Nat->Option lI
 |0=>none
 |j+1=>match fj m c j with
  |some k=>some k
  |none=>dj (fun (e:Nat)=>cA m j (c.take (c.length-1-j)++[c.getD (c.length-1-j) 0+1+(e:Int)])) (m.aq-(c.getD (c.length-1-j) 0+1)).toNat
theorem F7 {m:aL} {c:lI} {j:Nat} (h:fj m c j=none):fj m c (j+1)=dj (fun (e:Nat)=>cA m j (c.take (c.length-1-j)++[c.getD (c.length-1-j) 0+1+(e:Int)])) (m.aq-(c.getD (c.length-1-j) 0+1)).toNat:=by simp [fj,h]
theorem vt {m:aL} {c k:lI} {j:Nat} (h:fj m c j=some k):∀E,j<=E->fj m c E=some k
 |0,hE=>by rw [show j=0 by omega] at h;cases h
 |E+1,hE=>by
  by_cases e:j=E+1
  . rw [←e];exact h
  simp only [fj];rw [vt h E (by omega)]
theorem tG (m:aL) (c:lI) (hm:a6 m=true) (hl:(c.length:Int)=m.ah) (hc:∀x∈c,0<=x/\x<m.aq):Fn pG 86 [kV m,aM c] false (· =Tq (fj m c c.length)):=by
 have ⟨⟨zO,zP⟩,hd1,hd2⟩:=aO hm;refine Fn.cg 42 [.tmp 4,.tmp 5] func86 (hv:= ?_);simp -dsimp -implicitDefEqProofs only [go_sem];refine ⟨⟨by omega,by omega⟩,?_⟩;refine ak.up [1,2] [33,35,36,37] [] c.length (fun j=>fj m c j=none) (fun j=>[(6,eI ((c.length:Int)-1-(j:Int)))]) (fun _=>[]) rfl ?_ rfl (fun j hj hJ=> ?_) (fun hJ=> ?_)
 . simp -dsimp -implicitDefEqProofs only [go_sem];all_goals first|(simp;done)|skip
 . have hlt:decide ((c.length:Int)-1-(j:Int)≥0)=true:=dT (by omega);have hnx:=F7 hJ;have fU:∀k,fj m c (j+1)=some k->fj m c c.length=some k:=fun k hk=>vt hk _ (by omega);have hi:c.length-1-j<c.length:=by omega
   have Rh:(c.length:Int)-1-(j:Int)=((c.length-1-j:Nat):Int):=by omega
   have hx:=hc c[c.length-1-j] (uq6 hi);have hgd:c.getD (c.length-1-j) 0=c[c.length-1-j]:=by simp [uq4,hi]
   have gi:=get_some hi;have Yb:(c.length:Int)-1-((j+1:Nat):Int)=((c.length-1-j:Nat):Int)-1:=by omega
   rw [hgd] at hnx;rw [Rh] at hlt;rw [Rh,Yb];clear hJ Rh hgd Yb;generalize hI:c.length-1-j=i at*;generalize c[i]=z at*;rw [hnx];have UH:∀k,dj (fun (e:Nat)=>cA m j (c.take i++[z+1+(e:Int)])) (m.aq-(z+1)).toNat=some k->fj m c c.length=some k:=fun k hk=>fU k (hnx.trans hk);clear hnx fU;simp -dsimp -implicitDefEqProofs only [pz,bg,bj,aY,↓reduceIte,aP];simp -dsimp -implicitDefEqProofs only [go_sem,hlt,gi];refine ⟨by omega,⟨by omega,by omega⟩,?_⟩;refine ak.up [1,2,6] [33,35,36,37] [] (m.aq-(z+1)).toNat (fun e=>dj (fun (e:Nat)=>cA m j (c.take i++[z+1+(e:Int)])) e=none) (fun e=>[(7,eI (z+1+(e:Int)))]) (fun _=>[]) rfl ?_ rfl (fun e he hE=> ?_) (fun hE=> ?_)
   . simp -dsimp -implicitDefEqProofs only [go_sem];all_goals first|(simp;done)|skip
   . have WB:decide (z+1+(e:Int)<m.aq)=true:=dT (by omega);have ZA:(c.take i).length=i:=by simp;omega
     have hih:=yH m hm j (c.take i++[z+1+(e:Int)]) (by simp;omega) (fun x hx2=>by
      rcases dD.1 hx2 with h|h
      . have:=hc x (List.mem_of_mem_take h);omega
      simp at h;omega)
     have bd:=sx (c.take i) (by omega);have htk:bR i (uq8 eI c)=uq8 eI (c.take i):=uq9.symm;have hnx:=vr hE;have Ri:∀k,cA m j (c.take i++[z+1+(e:Int)])=some k->fj m c c.length=some k:=fun k hk=>UH k (o5 (hnx.trans hk) _ (by omega));rw [hnx];clear hE hnx UH hc;unfold tE at hih;generalize c.take i=T at*;have ot:uq8 eI T++[eI (z+1+(e:Int))]=uq8 eI (T++[z+1+(e:Int)]):=by simp
     have htl:bR (i+1) (uq8 eI (T++[z+1+(e:Int)]))=uq8 eI (T++[z+1+(e:Int)]):=cP (by simp;omega);have Zi:bR i (uq8 eI T)=uq8 eI T:=cP (by simp;omega);generalize cA m j (T++[z+1+(e:Int)])=F at*;simp -dsimp -implicitDefEqProofs only [pz,bg,bj,aY,↓reduceIte,aP];simp -dsimp -implicitDefEqProofs only [go_sem,WB];refine ak.Zu 8 mixed rfl ?_;simp -dsimp -implicitDefEqProofs only [hZ,cf,uq2,uq3];simp -dsimp -implicitDefEqProofs only [go_sem,htk];refine ⟨by omega,?_⟩;(refine an (bd) ?_;try simp -dsimp -implicitDefEqProofs only [go_sem, *]);refine ⟨by omega,?_⟩;refine ⟨by exact rfl,?_⟩;refine kQ 34000 1 ⟨1,false⟩ true (uq8 eI (T++[z+1+(e:Int)])) hih (by decide) ?_ ?_ fun r hr=> ?_
     . simp -dsimp -implicitDefEqProofs only [go_sem]
     . refine sn ?_ rfl ?_
       . simp -dsimp -implicitDefEqProofs only [go_sem]
       have h:=mO (l:=34000) (v:=1) (sh:=⟨1,false⟩) (ys:=uq8 eI (T++[z+1+(e:Int)])) (xs:=[]) (r:=[]) 0 (i+1) (by simp;omega) trivial;rw [uq3,htl] at h;exact h
     cases F with
     |some k=>
      rw [Ri k rfl];rw [show r= .aZ [aM k,eB true] from hr];clear hr Ri;simp -dsimp -implicitDefEqProofs only [go_sem,Tq];exact rfl
     |none=>
      clear Ri;obtain ⟨x,rfl,hx⟩:=hr;rcases hx with rfl|rfl
      . simp -dsimp -implicitDefEqProofs only [go_sem];exact ⟨by exact rfl,⟨by omega,by omega⟩,by simp;omega⟩
      simp -dsimp -implicitDefEqProofs only [go_sem];exact ⟨by exact rfl,⟨by omega,by omega⟩,by simp;omega⟩
   have WB:decide (z+1+(((m.aq-(z+1)).toNat:Nat):Int)<m.aq)=false:=dF (by omega);rw [hE];simp -dsimp -implicitDefEqProofs only [pz,bg,bj,aY,↓reduceIte,aP];simp -dsimp -implicitDefEqProofs only [go_sem,WB];(exact ⟨by omega,by omega⟩)
 have hlt:decide ((c.length:Int)-1-(c.length:Int)≥0)=false:=dF (by omega);rw [hJ];clear hJ;simp -dsimp -implicitDefEqProofs only [pz,bg,bj,aY,↓reduceIte,aP];simp -dsimp -implicitDefEqProofs only [go_sem,hlt,Tq]
theorem yI {f:Nat->Option lI} {d:Nat} (h:f d≠none):∀D,d<D->dj f D≠none
 |0,hd=>absurd hd (Nat.not_lt_zero _)
 |D+1,hd=>by
  simp only [dj];cases hh:dj f D with
  |some k=>exact fun h=>by cases h
  |none=>
   by_cases e:d=D
   . subst e;exact h
   exact absurd hh (yI h D (by omega))
theorem yJ {m:aL}:∀(n:Nat) (c t:lI),t.length=n->fh m (c++t)=true->m.least<=(bq (c++t) (c++t).length:Int)->(∀x∈t,0<=x/\x<m.aq)->cA m n c≠none
 |0,c,t,hl,ho,hk,hx=>by
  obtain rfl:=List.eq_nil_of_length_eq_zero hl;rw [List.append_nil] at ho hk;rw [cA,if_pos ⟨ho,hk⟩];exact fun h=>by cases h
 |n+1,c,t,hl,ho,hk,hx=>by
  cases t with
  |nil=>cases hl
  |cons d t=>
   have hd:=hx d (bW ..);have hoc:fh m c=true:=by
    have:=nL ho (i:=c.length) (by simp)
    rwa [List.take_left'] at this
    rfl
   rw [cA,if_pos hoc];refine yI (d:=d.toNat) ?_ _ (by omega);have e:((d.toNat:Nat):Int)=d:=by omega
   rw [e];have e2:c++d::t=(c++[d])++t:=by simp
   rw [e2] at ho hk;exact yJ n (c++[d]) t (by simpa using hl) ho hk fun x hx2=>hx x (List.mem_cons_of_mem _ hx2)
def IS (ch dp:Int):lI:=(([0,1,2,3,4,5]:lI).map fun x=>if x<dp then x else if (x-dp).tmod 2=0 then dp-2 else dp-1).take ch.toNat
def XA (C D:Int):Bool:=
 (IS C D).length==C.toNat&&(bB (IS C D).length).all (fun i=>decide (ba (IS C D) i<=1)&&(i==0||decide (fg ((IS C D).getD i 0-(IS C D).getD (i-1) 0)<=1)))&&
   decide ((if D<C then D else C)<=(bq (IS C D) (IS C D).length:Int))&&(IS C D).all fun x=>decide (0<=x)&&decide (x<D)
theorem Qi:((bB 5).all fun c=>(bB 7).all fun d=>XA ((c:Int)+2) ((d:Int)+2))=true:=by decide+kernel
theorem VZ {m:aL} (hm:a6 m=true):(IS m.ah m.aq).length=m.ah.toNat/\fh m (IS m.ah m.aq)=true/\m.least<=(bq (IS m.ah m.aq) (IS m.ah m.aq).length:Int)/\∀x∈IS m.ah m.aq,0<=x/\x<m.aq:=by
 have vS:=aO hm;have hs:=mS hm;have hl:m.least<=if m.aq<m.ah then m.aq else m.ah:=by simp only [a6,bF,uq0,decide_eq_true_eq] at hm;exact hm.2.2
 have h1:=uq1.1 Qi (m.ah.toNat-2) (cr.2 (by omega));have h2:=uq1.1 h1 (m.aq.toNat-2) (cr.2 (by omega));rw [show ((m.ah.toNat-2:Nat):Int)+2=m.ah by omega,show ((m.aq.toNat-2:Nat):Int)+2=m.aq by omega] at h2;unfold XA at h2;simp only [uq0,beq_iff_eq,decide_eq_true_eq] at h2;obtain ⟨⟨⟨g1,g2⟩,g3⟩,g4⟩:=h2;generalize IS m.ah m.aq=z at*;refine ⟨g1,?_,by omega,fun x hx=> ?_⟩
 . unfold fh;rw [uq1] at g2 ⊢;intro i hi;have:=g2 i hi;simp only [uq0,decide_eq_true_eq,Bool.or_eq_true,beq_iff_eq] at this ⊢;refine ⟨by omega,?_⟩;unfold cE;rcases this.2 with h|h
   . simp [h]
   rw [decide_eq_true (show fg (z.getD i 0-z.getD (i-1) 0)<=m.step by omega)];simp
 have:=uq1.1 g4 x hx;simpa using this
theorem F8 {m:aL} (hm:a6 m=true):∃k,cA m m.ah.toNat []=some k:=by
 obtain ⟨h1,h2,h3,h4⟩:=VZ hm;have:=yJ m.ah.toNat [] (IS m.ah m.aq) h1 h2 h3 h4;cases hh:cA m m.ah.toNat [] with
 |some k=>exact ⟨k,rfl⟩
 |none=>exact absurd hh this
theorem nN {f g:Nat->Option lI}:∀{D:Nat},(∀d,d<D->f d=g d)->dj f D=dj g D
 |0,_=>rfl
 |D+1,h=>by simp only [dj];rw [nN (D:=D) (fun d hd=>h d (by omega)),h D (by omega)]
theorem tH (F:Nat->lL):∀D,dj (fun d=>(F d).head?) D=((bB D).flatMap F).head?
 |0=>rfl
 |D+1=>by rw [bk,List.flatMap_append,List.head?_append,←tH F D];simp only [dj,List.flatMap_cons,List.flatMap_nil,List.append_nil];cases dj (fun d=>(F d).head?) D<;>rfl
theorem o6 (m:aL):∀(n:Nat) (c:lI),cA m n c=if fh m c=true then (bc m n c).head? else none
 |0,c=>by
  simp only [cA,bc];by_cases h1:fh m c=true
  . rw [if_pos h1];by_cases h2:m.least<=(bq c c.length:Int)
    . rw [if_pos ⟨h1,h2⟩,if_neg (by omega)];rfl
    rw [if_neg (fun h=>h2 h.2),if_pos (by omega)];rfl
  rw [if_neg (fun h=>h1 h.1),if_neg h1]
 |n+1,c=>by
  simp only [cA];by_cases h1:fh m c=true
  . rw [if_pos h1,if_pos h1];simp only [bc];rw [←tH];refine nN fun d _=> ?_;rw [o6 m n,jx,h1,Bool.true_and];split<;>rfl
  rw [if_neg h1,if_neg h1]
theorem gT (F:Nat->lL) (a:Nat):∀b,(bB (a+b)).flatMap F=(bB a).flatMap F++(bB b).flatMap fun e=>F (a+e)
 |0=>by simp
 |b+1=>by rw [show a+(b+1)=(a+b)+1 by omega,bk,List.flatMap_append,gT F a b,bk,List.flatMap_append];simp
theorem vu {m:aL} {k:lI} (h:qo m k):∀j,j<=k.length->∃a b,bc m j (k.take (k.length-j))=a++k::b/\fj m k j=b.head?
 |0,_=>by
  obtain ⟨h1,h2,h3,h4⟩:=h;refine ⟨[],[],?_,rfl⟩;rw [Nat.sub_zero,cK,bc,if_neg h3];rfl
 |j+1,hj=>by
  obtain ⟨a,b,e1,e2⟩:=vu h j (by omega);obtain ⟨h1,h2,h3,h4⟩:=h;have hi:k.length-1-j<k.length:=by omega
  have hx:=h4 _ (uq6 hi);have hg:k.getD (k.length-1-j) 0=k[k.length-1-j]:=by simp [uq4,hi]
  have ht:=yF hi;rw [show k.length-1-j+1=k.length-j by omega,hg] at ht;have hok:=nL h2 (i:=k.length-j) (by omega);rw [ht,jx] at hok;obtain ⟨me,rk⟩:=Bool.and_eq_true_iff.1 hok
  have hnx:fj m k (j+1)=match fj m k j with
   |some k=>some k
   |none=>dj (fun (e:Nat)=>cA m j (k.take (k.length-1-j)++[k[k.length-1-j]+1+(e:Int)])) (m.aq-(k[k.length-1-j]+1)).toNat:=by
   simp only [fj,hg]<;>cases fj m k j<;>rfl
  rw [show k.length-(j+1)=k.length-1-j by omega];generalize k[k.length-1-j]=z at*;generalize hp:k.take (k.length-1-j)=p at*;rw [ht] at e1;have hz:z=((z.toNat:Nat):Int):=by omega
  have hsp:m.aq.toNat=z.toNat+(1+(m.aq-(z+1)).toNat):=by omega
  let F:Nat->lL:=fun d=>if (bP m p (d:Int)&&gb m p (d:Int))=true then bc m j (p++[(d:Int)]) else []
  have hF:F z.toNat=a++k::b:=by show (if (bP m p ((z.toNat:Nat):Int)&&gb m p ((z.toNat:Nat):Int))=true then bc m j (p++[((z.toNat:Nat):Int)]) else [])=_;rw [←hz,if_pos rk,e1]
  have hk:bc m (j+1) p=(bB z.toNat).flatMap F++(F z.toNat++(bB (m.aq-(z+1)).toNat).flatMap fun e=>F (z.toNat+(1+e))):=by show (bB m.aq.toNat).flatMap F=_;rw [hsp,gT,gT (fun e=>F (z.toNat+e)) 1];simp [bk]
  refine ⟨(bB z.toNat).flatMap F++a,b++(bB (m.aq-(z+1)).toNat).flatMap fun e=>F (z.toNat+(1+e)),?_,?_⟩
  . rw [hk,hF];simp
  rw [hnx,e2,List.head?_append,←tH];cases b.head? with
  |some x=>rfl
  |none=>
   show dj _ _=_;simp only [Option.none_or];refine nN fun e _=> ?_;rw [o6,jx,me,Bool.true_and];have:z+1+(e:Int)=((z.toNat+(1+e):Nat):Int):=by omega
   rw [this];show _=(if (bP m p ((z.toNat+(1+e):Nat):Int)&&gb m p ((z.toNat+(1+e):Nat):Int))=true then bc m j (p++[((z.toNat+(1+e):Nat):Int)]) else []).head?
   split<;>rfl
theorem IT {m:aL} (hm:0<=m.ah) {a b:lL} {k:lI} (h:bE m=a++k::b):fj m k k.length=b.head? :=by
 have hk:k∈bE m:=by rw [h];simp
 have hok:=kq hm hk;obtain ⟨a',b',e1,e2⟩:=vu hok k.length (cH _);rw [Nat.sub_self,cf] at e1;have hl:m.ah.toNat=k.length:=by have:=hok.len;omega
 have e1':bE m=a'++k::b':=by rw [bE,hl];exact e1
 have hn:=o4 (m:=m) m.ah.toNat [];rw [show bc m m.ah.toNat []=bE m from rfl,h] at hn;rw [h] at e1';have:a=a'/\k::b=k::b':=by
  have key:∀(a a' b b':lL),a++k::b=a'++k::b'->(a++k::b).Nodup->a=a'/\b=b':=by
   intro a;induction a with
   |nil=>
    intro a' b b' h hn;cases a' with
    |nil=>exact ⟨rfl,by simpa using h⟩
    |cons x r=>
     simp only [List.nil_append,List.cons_append,List.cons.injEq] at h;obtain ⟨rfl,h⟩:=h;simp only [List.nil_append,List.nodup_cons] at hn;exact absurd (by rw [h];simp) hn.1
   |cons x r ih=>
    intro a' b b' h hn;cases a' with
    |nil=>
     simp only [List.nil_append,List.cons_append,List.cons.injEq] at h;obtain ⟨rfl,h⟩:=h;simp only [List.cons_append,List.nodup_cons] at hn;exact absurd (by simp) hn.1
    |cons x' r'=>
     simp only [List.cons_append,List.cons.injEq] at h;obtain ⟨rfl,h⟩:=h;simp only [List.cons_append,List.nodup_cons] at hn;obtain ⟨h1,h2⟩:=ih r' b b' h hn.2;exact ⟨by rw [h1],h2⟩
  obtain ⟨h1,h2⟩:=key a a' b b' e1' hn;exact ⟨h1,by rw [h2]⟩
 rw [e2];have:=this.2;simp only [List.cons.injEq,true_and] at this;rw [this]
theorem IU (m:aL):cA m m.ah.toNat []=(bE m).head? :=by rw [o6,if_pos (show fh m []=true from rfl)];rfl
def lT (m:aL) (t ae:lL):Bool:=((gS m t ae).length:Int)==0
def MQ (o:Option lI):AV:=match o with
 |some k=>aM k
 |none=>.val (.slice none 0 0)
theorem db (k:lI):MQ (some k)=aM k:=rfl
theorem fP:MQ none= .val (.slice none 0 0):=rfl
theorem Di (o:Option lI):Tq o= .aZ [MQ o,eB o.isSome]:=by cases o<;>rfl
theorem yK {m:aL} (hm:0<=m.ah) {i:Nat} {k:lI} (h:(bE m)[i]? =some k):fj m k k.length=(bE m)[i+1]? :=by
 obtain ⟨hi,e⟩:=List.getElem?_eq_some_iff.1 h;have hs:bE m=(bE m).take i++k::(bE m).drop (i+1):=by rw [←e,←List.drop_eq_getElem_cons hi,List.take_append_drop]
 rw [IT hm hs,List.head?_drop]
structure SS where
 tries:Nat
 stop:Bool
 found:List lL
def DT (m:aL) (t:lL) (lim:Nat) (part:lL) (rec:lL->SS->Bool × SS):lL->SS->Bool × SS
 | [],z=>(false,z)
 |k::ks,z=>
  if ((z.tries:Int)==(lim:Int))=true then (true,⟨z.tries,true,z.found⟩)
  else if lT m t (part++[k])=true then
   (if (rec (part++[k]) ⟨z.tries+1,z.stop,z.found⟩).1=true then (true,(rec (part++[k]) ⟨z.tries+1,z.stop,z.found⟩).2)
   else DT m t lim part rec ks (rec (part++[k]) ⟨z.tries+1,z.stop,z.found⟩).2)
  else DT m t lim part rec ks ⟨z.tries+1,z.stop,z.found⟩
def dP (m:aL) (t:lL) (lim:Nat):Nat->lL->SS->Bool × SS
 |0,part,z=>(true,⟨z.tries,z.stop,[part]⟩)
 |d+1,part,z=>DT m t lim part (dP m t lim d) (bE m) z
structure V1 (m:aL) (lim n:Nat) (b:Bool) (z:SS):Prop where
 tr:z.tries<=lim
 no:b=false->z.found=[]
 one:z.found.length<=1
 fl:∀f∈z.found,f.length=n/\∀k∈f,k∈bE m
theorem IV {m:aL} {t:lL} {lim n:Nat} {part:lL} {rec:lL->SS->Bool × SS} (hp:∀k∈part,k∈bE m)
 (hr:∀k z,k∈bE m->z.tries<=lim->z.found=[]->V1 m lim n (rec (part++[k]) z).1 (rec (part++[k]) z).2):
 ∀(ks:lL) (z:SS),(∀k∈ks,k∈bE m)->z.tries<=lim->z.found=[]->V1 m lim n (DT m t lim part rec ks z).1 (DT m t lim part rec ks z).2
 | [],z,_,h1,h2=>⟨h1,fun _=>h2,by rw [DT,h2];simp,fun f hf=>by rw [DT,h2] at hf;cases hf⟩
 |k::ks,z,hk,h1,h2=>by
  have hk1:=hk k (bW ..);have hk2:∀k∈ks,k∈bE m:=fun x hx=>hk x (List.mem_cons_of_mem _ hx);unfold DT;split
  . exact ⟨h1,fun h=>(by cases h),by simp [h2],fun f hf=>by simp [h2] at hf⟩
  rename_i hne;have hne:z.tries≠lim:=fun e=>hne (by rw [e];simp);split
  . have:=hr k ⟨z.tries+1,z.stop,z.found⟩ hk1 (by simp only;omega) h2;split
    . rename_i hb;rw [hb] at this;exact ⟨this.tr,fun h=>(by cases h),this.one,this.fl⟩
    rename_i hb;exact IV hp hr ks _ hk2 this.tr (this.no (by simpa using hb))
  exact IV hp hr ks _ hk2 (by simp only;omega) h2
theorem k6 {m:aL} {t:lL} {lim:Nat}:∀(d:Nat) (part:lL) (z:SS),(∀k∈part,k∈bE m)->z.tries<=lim->z.found=[]->V1 m lim (part.length+d) (dP m t lim d part z).1 (dP m t lim d part z).2
 |0,part,z,hp,h1,h2=>⟨h1,fun h=>(by cases h),by simp [dP],fun f hf=>by
   simp only [dP,bQ] at hf;subst hf;exact ⟨rfl,hp⟩⟩
 |d+1,part,z,hp,h1,h2=>by
  refine IV hp (fun k z hk h1 h2=> ?_) (bE m) z (fun _ h=>h) h1 h2
  have:=k6 d (part++[k]) z (t:=t) (fun x hx=>by
   rcases dD.1 hx with hx|hx
   . exact hp x hx
   simp at hx;subst hx;exact hk) h1 h2
  rw [uq7,List.length_singleton] at this;rw [show part.length+(d+1)=part.length+1+d by omega];exact this
theorem BW (ae:lL) (key:lI) (h:ae.length<=1000):Fn pG 241 [aR ae,aM key] false (· =aR (ae++[key])):=by
 refine Fn.cg 11 [.tmp 4] func241 (hv:= ?_);have tc:(ae.map aM).take ae.length=ae.map aM:=cP (by simp);cases ae with
 |nil=>
  simp -dsimp -implicitDefEqProofs only [go_sem];all_goals first|(simp [aM];done)|skip
 |cons c r=>
  have hf:bo ((c::r).map aM)=false:=rfl;generalize c::r=ae at*;simp -dsimp -implicitDefEqProofs only [go_sem,hf,tc];((with_reducible and_intros);all_goals try (omega));all_goals first|(refine .inr ⟨by omega,?_⟩;rw [cP (by simp)];simp [aM];done)|skip
theorem BX (m:aL) (t ae:lL) (hm:a6 m=true) (h0:ae.length<=1000) (h1:ae.length<=t.length) (h2:0<t.length) (hk:∀i (hi:i<t.length),t[i].length=(t.getD 0 []).length) (hd:(t.getD 0 []).length<=1000) (hc:∀x∈ae,(x.length:Int)=m.ah):
 Fn pG 242 [jR m t,aR ae] true (· =eB (lT m t ae)):=by
 have hq:=qR m t ae hm h0 h1 h2 hk hd hc;refine Fn.av 10 [.tmp 4] func242 (hv:= ?_);unfold lT;generalize gS m t ae=F at*;simp -dsimp -implicitDefEqProofs only [go_sem];refine ax (hq) (by simp [ay,ao,au,aH]) ?_;simp -dsimp -implicitDefEqProofs only [go_sem]
theorem tI (xs:lI) (h:xs.length<=1048576):Fn pG 57 [aM xs] false (· =aM xs):=by refine Fn.cg 6 [.tmp 2] func57 (hv:= ?_);simp -dsimp -implicitDefEqProofs only [go_sem];(all_goals try (omega))
theorem nO (t:lL) (h:t.length<=1000) (h2:∀x∈t,x.length<=1048576):Fn pG 31 [aR t] false (· =aR t):=by
 refine Fn.cg 21 [.tmp 2] func31 (hv:= ?_);simp -dsimp -implicitDefEqProofs only [go_sem];refine ak.up [0] [8,17,18,19] [5] t.length (fun _=>True) (fun i=>[(4,eI i),(3,.ref 5 0 0 i)]) (fun i=>[(5,.row 0 ⟨1,false⟩ (i==0) ((t.take i).map aM))]) trivial ?_ rfl (fun i hi _=> ?_) (fun _=> ?_)
 . simp -dsimp -implicitDefEqProofs only [go_sem]
 . have gi:=get_some hi;have li:=aG hi;have ho:=tI t[i] (h2 _ (uq6 hi));have e2:(t.take (i+1)).map aM=(t.take i).map aM++[aM t[i]]:=by rw [jd hi,List.map_append];rfl
   have hln:(t.take i).length=i:=by simp;omega
   have e0:(i+1==0)=false:=rfl;rw [e0,e2];clear e0 e2;generalize t.take i=F at*;generalize t[i]=x at*;have tF:(F.map aM).take i=F.map aM:=cP (by simp;omega);simp -dsimp -implicitDefEqProofs only [pz,bg,bj,aY,↓reduceIte,aP];simp -dsimp -implicitDefEqProofs only [go_sem,gi,li];((with_reducible and_intros);all_goals try (omega));refine ax (ho) (by simp [ay,ao,aH]) ?_;simp -dsimp -implicitDefEqProofs only [go_sem];refine .inr ⟨by omega,by omega,(by cases i with|zero=>exact .inr rfl|succ i=>exact .inl rfl),⟨by omega,by omega⟩,?_⟩;simp -dsimp -implicitDefEqProofs only [go_sem,tF];(all_goals try (exact rfl))
 have tt:(t.map aM).take t.length=t.map aM:=cP (by simp);rw [cK];simp -dsimp -implicitDefEqProofs only [pz,bg,bj,aY,↓reduceIte,aP];simp -dsimp -implicitDefEqProofs only [go_sem,aC]
def eF (fs:List lL):AV:=match fs with
 | []=>.val (.slice none 0 0)
 |f::r=>.arr ⟨1,false⟩ (aR f::r.map aR)
theorem cZ:eF []= .val (.slice none 0 0):=rfl
theorem tJ (f:lL):eF [f]= .arr ⟨1,false⟩ [aR f]:=rfl
abbrev sB (v:Nat) (m:aL) (t:lL) (lim:Nat) (z:SS):bh:=
 .box v [eI m.ah,eI m.aq,eI m.step,eI m.same,eI m.least,aR t,eI lim,eI 1,eI z.tries,eB z.stop,eF z.found]
structure Qj (t:lL):Prop where
 n:1<=t.length/\t.length<=900
 r:∀i (hi:i<t.length),t[i].length=(t.getD 0 []).length
 d:(t.getD 0 []).length<=1000
theorem yL {m:aL} (hm:a6 m=true):∃k0,(bE m)[0]? =some k0/\Fn pG 87 [kV m,VY] false (· = .aZ [aM k0,eB true]):=by have ⟨⟨n1,n2⟩,n3,n4⟩:=aO hm;obtain ⟨k0,hk0⟩:=F8 hm;have hf:=(yH m hm m.ah.toNat [] (by simp;omega) (fun x hx=>by cases hx)).Qa (args':=[kV m,VY]) (.cons (.refl _) (.cons (.nil _) .nil));unfold tE at hf;rw [hk0] at hf;exact ⟨k0,by rw [←List.head?_eq_getElem?,←IU,hk0],hf⟩
set_option maxHeartbeats 16000000 in
theorem MR (m:aL) (t:lL) (lim:Nat) (hm:a6 m=true) (ht:Qj t) (hl:lim<=4000):∀(d v:Nat) (part:lL) (z:SS),part.length+d=t.length->(∀k∈part,k∈bE m)->z.tries<=lim->z.found=[]→
 qI pG 189 [sB v m t lim z] [.ptr 1000000000 v 0 0,aR part,.val (.slice none 0 0)] (fun x io=>x=eB (dP m t lim d part z).1/\io=[sB v m t lim (dP m t lim d part z).2]):=by
 have ⟨⟨n1,n2⟩,n3,n4⟩:=aO hm;have hK:=fun k (hk:k∈bE m)=>kq (m:=m) (by omega) hk;have ⟨⟨ht1,ht2⟩,ht3,ht4⟩:=ht;obtain ⟨k0,hk1,hf⟩:=yL hm;intro d;induction d with
 |zero=>
  intro v part z hd hp hz1 hz2;refine qI.dM 105 [.tmp 6] func189 (hv:= ?_);obtain ⟨tries,stop,found⟩:=z;simp only at hz1 hz2;subst hz2;have hln:((part.length:Int)==(t.length:Int))=true:=by simp;omega
  unfold dP;simp -dsimp -implicitDefEqProofs only [go_sem,cZ,hln];refine .inr ?_;refine ak.VH 1000000000 v 10 26 0 0 1 ⟨1,false⟩ false _ _ (by decide) rfl rfl rfl (by simp) ?_;refine ak.draw mixed rfl ?_;simp -dsimp -implicitDefEqProofs only [go_sem];((with_reducible and_intros);all_goals try (exact rfl))
 |succ d ih=>
  intro v part z hd hp hz1 hz2;refine qI.dM 105 [.tmp 6] func189 (hv:= ?_);have hln:((part.length:Int)==(t.length:Int))=false:=by simp;omega
  obtain ⟨RR,hR⟩:∃RR,dP m t lim (d+1) part z=RR:=⟨_,rfl⟩;rw [hR];unfold dP at hR;obtain ⟨tries0,stop0,found0⟩:=z;simp only at hz1 hz2;subst hz2;simp -dsimp -implicitDefEqProofs only [go_sem,hln,cZ];refine ax hf (by simp [ay,ao,au,aH]) ?_;have h00:decide ((0:Int)>0)=false:=rfl;simp -dsimp -implicitDefEqProofs only [go_sem,h00];have hdr:DT m t lim part (dP m t lim d) ((bE m).drop 0) ⟨tries0,stop0,[]⟩=RR:=hR;clear hR
  refine ak.lp [0,1] [83,89,93,102] [1000000000] (fun x:Nat × SS=>x.1<=(bE m).length/\x.2.tries<=lim/\x.2.found=[]/\DT m t lim part (dP m t lim d) ((bE m).drop x.1) x.2=RR) (fun x=>[(8,eB ((bE m)[x.1]?).isSome),(7,MQ ((bE m)[x.1]?))])
   (fun x=>[(1000000000,sB v m t lim x.2)]) (fun x=>(bE m).length-x.1) (0,⟨tries0,stop0,[]⟩) ⟨Nat.zero_le _,hz1,rfl,hdr⟩ ?_ rfl (fun x hx=> ?_)
  . rw [hk1];simp -dsimp -implicitDefEqProofs only [go_sem,db,gB,cZ]
  obtain ⟨i,z⟩:=x;obtain ⟨x1,x2,x3,x4⟩:=hx;obtain ⟨tries,stop,found⟩:=z;simp only at x1 x2 x3 x4 ⊢;subst x3;rcases Nat.lt_or_ge i (bE m).length with hi|hi
  . have gi:=get_some hi;have hki:=hK _ (uq6 hi);have hkm:=uq6 hi;rw [List.drop_eq_getElem_cons hi] at x4;generalize (bE m)[i]=k at*;have hnx:=tG m k hm hki.len hki.el;rw [yK (by omega) gi,Di] at hnx;have hw:=BW part k (by omega);have hp2:∀x∈part++[k],x∈bE m:=fun x hx=>by
     rcases dD.1 hx with hx|hx
     . exact hp x hx
     simp at hx;subst hx;exact hkm
    have ho:=BX m t (part++[k]) hm (by simp;omega) (by simp;omega) (by omega) ht3 ht4 (fun x hx=>(hK x (hp2 x hx)).len);have lu:=fun z=>ih v (part++[k]) z (by simp;omega) hp2;have JA:=fun z h1 h2=>k6 (m:=m) (t:=t) (lim:=lim) d (part++[k]) z hp2 h1 h2;unfold DT at x4;rw [gi];generalize hO:(bE m)[i+1]? =o at*;generalize lT m t (part++[k])=b at*;clear hK ih;cases htl:((tries:Int)==(lim:Int)) with
    |true=>
     rw [htl,if_pos rfl] at x4;subst x4;simp -dsimp -implicitDefEqProofs only [pz,bg,bj,aY,↓reduceIte,aP];simp -dsimp -implicitDefEqProofs only [go_sem,db,gB];refine ak.draw mixed rfl ?_;simp -dsimp -implicitDefEqProofs only [go_sem,htl];((with_reducible and_intros);all_goals try (exact rfl))
    |false=>
     have Zj:tries≠lim:=fun e=>by rw [e] at htl;simp at htl
     rw [htl,if_neg (by simp)] at x4;simp -dsimp -implicitDefEqProofs only [pz,bg,bj,aY,↓reduceIte,aP];simp -dsimp -implicitDefEqProofs only [go_sem,db,gB];refine ak.draw mixed rfl ?_;simp -dsimp -implicitDefEqProofs only [go_sem,htl];((with_reducible and_intros);all_goals try first|(refine ⟨?_,?_⟩<;>omega)|exact rfl);refine ax hw (by simp [ay,ao,aH]) ?_;simp -dsimp -implicitDefEqProofs only [go_sem];refine ab ho ?_;cases b with
     |true=>
      rw [if_pos rfl] at x4;have lu:=lu ⟨tries+1,stop,[]⟩ (by simp only;omega) rfl;have JA:=JA ⟨tries+1,stop,[]⟩ (by simp only;omega) rfl;generalize dP m t lim d (part++[k]) ⟨tries+1,stop,[]⟩=F at*;obtain ⟨bb,tr,st,fd⟩:=F;obtain ⟨g1,g2,g3,g4⟩:=JA;simp only at g1 g2 g3 x4;cases bb with
      |true=>
       rw [if_pos rfl] at x4;subst x4;simp -dsimp -implicitDefEqProofs only [go_sem];refine im [1000000000] ?_;cases fd with
       |nil=>
        simp -dsimp -implicitDefEqProofs only [go_sem,cZ];refine dN lu ?_;rintro _ _ ⟨rfl,rfl⟩;simp -dsimp -implicitDefEqProofs only [go_sem,cZ];(all_goals try (exact rfl))
       |cons f r=>
        obtain rfl:r=[]:=by cases r with|nil=>rfl|cons=>simp at g3
        simp -dsimp -implicitDefEqProofs only [go_sem,cZ];refine dN lu ?_;rintro _ _ ⟨rfl,rfl⟩;simp -dsimp -implicitDefEqProofs only [go_sem,tJ];(all_goals try (exact rfl))
      |false=>
       rw [if_neg (by simp)] at x4;obtain rfl:=g2 rfl;simp -dsimp -implicitDefEqProofs only [go_sem];refine im [1000000000] ?_;simp -dsimp -implicitDefEqProofs only [go_sem,cZ];refine dN lu ?_;rintro _ _ ⟨rfl,rfl⟩;simp -dsimp -implicitDefEqProofs only [go_sem,cZ];refine ax hnx (by simp [ay,ao,au,aH]) ?_;cases o with
       |some k2=>
        simp -dsimp -implicitDefEqProofs only [go_sem];refine ⟨(i+1,⟨tr,st,[]⟩),⟨by omega,g1,rfl,x4⟩,by simp only;omega,?_⟩;rw [hO];simp -dsimp -implicitDefEqProofs only [go_sem,db,gB,cZ]
       |none=>
        simp -dsimp -implicitDefEqProofs only [go_sem];refine ⟨(i+1,⟨tr,st,[]⟩),⟨by omega,g1,rfl,x4⟩,by simp only;omega,?_⟩;rw [hO];simp -dsimp -implicitDefEqProofs only [go_sem,fP,fW,cZ]
     |false=>
      rw [if_neg (by simp)] at x4;simp -dsimp -implicitDefEqProofs only [go_sem];refine ax hnx (by simp [ay,ao,au,aH]) ?_;cases o with
      |some k2=>
       simp -dsimp -implicitDefEqProofs only [go_sem];refine ⟨(i+1,⟨tries+1,stop,[]⟩),⟨by omega,by simp only;omega,rfl,x4⟩,by simp only;omega,?_⟩;rw [hO];simp -dsimp -implicitDefEqProofs only [go_sem,db,gB,cZ];(all_goals try (exact rfl))
      |none=>
       simp -dsimp -implicitDefEqProofs only [go_sem];refine ⟨(i+1,⟨tries+1,stop,[]⟩),⟨by omega,by simp only;omega,rfl,x4⟩,by simp only;omega,?_⟩;rw [hO];simp -dsimp -implicitDefEqProofs only [go_sem,fP,fW,cZ];(all_goals try (exact rfl))
  have gn:(bE m)[i]? =none:=List.getElem?_eq_none hi;rw [List.drop_of_length_le hi,DT] at x4;subst x4;rw [gn];simp -dsimp -implicitDefEqProofs only [pz,bg,bj,aY,↓reduceIte,aP];simp -dsimp -implicitDefEqProofs only [go_sem,fP,fW,cZ];(all_goals try (exact rfl))
set_option maxHeartbeats 16000000 in
theorem IW (m:aL) (t:lL) (lim:Nat) (hm:a6 m=true) (ht:Qj t) (hl:lim<=4000) (d v:Nat) (z:SS) (hd0:d+1=t.length) (hz1:z.tries<=lim) (hz2:z.found=[]):
 qI pG 189 [sB v m t lim z] [.ptr 1000000000 v 0 0,.val (.slice none 0 0),.val (.slice none 0 0)] (fun x io=>x=eB (dP m t lim (d+1) [] z).1/\io=[sB v m t lim (dP m t lim (d+1) [] z).2]):=by
 have ⟨⟨n1,n2⟩,n3,n4⟩:=aO hm;have hK:=fun k (hk:k∈bE m)=>kq (m:=m) (by omega) hk;have ⟨⟨ht1,ht2⟩,ht3,ht4⟩:=ht;obtain ⟨k0,hk1,hf⟩:=yL hm;refine qI.dM 105 [.tmp 6] func189 (hv:= ?_);have hln:((0:Int)==(t.length:Int))=false:=by simp;omega
 have hd:([]:lL).length+(d+1)=t.length:=by simp;omega
 have hp:∀k∈([]:lL),k∈bE m:=fun k h=>by cases h
 obtain ⟨RR,hR⟩:∃RR,dP m t lim (d+1) [] z=RR:=⟨_,rfl⟩;rw [hR];unfold dP at hR;obtain ⟨tries0,stop0,found0⟩:=z;simp only at hz1 hz2;subst hz2;simp -dsimp -implicitDefEqProofs only [go_sem,hln,cZ];refine ax hf (by simp [ay,ao,au,aH]) ?_;have h00:decide ((0:Int)>0)=false:=rfl;simp -dsimp -implicitDefEqProofs only [go_sem,h00];have hdr:DT m t lim [] (dP m t lim d) ((bE m).drop 0) ⟨tries0,stop0,[]⟩=RR:=hR;clear hR
 refine ak.lp [0,1] [83,89,93,102] [1000000000] (fun x:Nat × SS=>x.1<=(bE m).length/\x.2.tries<=lim/\x.2.found=[]/\DT m t lim [] (dP m t lim d) ((bE m).drop x.1) x.2=RR) (fun x=>[(8,eB ((bE m)[x.1]?).isSome),(7,MQ ((bE m)[x.1]?))])
  (fun x=>[(1000000000,sB v m t lim x.2)]) (fun x=>(bE m).length-x.1) (0,⟨tries0,stop0,[]⟩) ⟨Nat.zero_le _,hz1,rfl,hdr⟩ ?_ rfl (fun x hx=> ?_)
 . rw [hk1];simp -dsimp -implicitDefEqProofs only [go_sem,db,gB,cZ]
 obtain ⟨i,z⟩:=x;obtain ⟨x1,x2,x3,x4⟩:=hx;obtain ⟨tries,stop,found⟩:=z;simp only at x1 x2 x3 x4 ⊢;subst x3;rcases Nat.lt_or_ge i (bE m).length with hi|hi
 . have gi:=get_some hi;have hki:=hK _ (uq6 hi);have hkm:=uq6 hi;rw [List.drop_eq_getElem_cons hi] at x4;generalize (bE m)[i]=k at*;have hnx:=tG m k hm hki.len hki.el;rw [yK (by omega) gi,Di] at hnx;have hw:=(BW [] k (by simp)).Qa (args':=[.val (.slice none 0 0),aM k]) (.cons (.nil _) (.cons (.refl _) .nil));have hp2:∀x∈[]++[k],x∈bE m:=fun x hx=>by
    rcases dD.1 hx with hx|hx
    . exact hp x hx
    simp at hx;subst hx;exact hkm
   have ho:=BX m t ([]++[k]) hm (by simp) (by simp only [List.nil_append,List.length_singleton];omega) (by omega) ht3 ht4 (fun x hx=>(hK x (hp2 x hx)).len);have lu:=fun z=>MR m t lim hm ht hl d v ([]++[k]) z (by simp only [List.nil_append,List.length_singleton];omega) hp2;have JA:=fun z h1 h2=>k6 (m:=m) (t:=t) (lim:=lim) d ([]++[k]) z hp2 h1 h2;unfold DT at x4;rw [gi];generalize hO:(bE m)[i+1]? =o at*;generalize lT m t ([]++[k])=b at*;clear hK;cases htl:((tries:Int)==(lim:Int)) with
   |true=>
    rw [htl,if_pos rfl] at x4;subst x4;simp -dsimp -implicitDefEqProofs only [pz,bg,bj,aY,↓reduceIte,aP];simp -dsimp -implicitDefEqProofs only [go_sem,db,gB];refine ak.draw mixed rfl ?_;simp -dsimp -implicitDefEqProofs only [go_sem,htl];((with_reducible and_intros);all_goals try (exact rfl))
   |false=>
    have Zj:tries≠lim:=fun e=>by rw [e] at htl;simp at htl
    rw [htl,if_neg (by simp)] at x4;simp -dsimp -implicitDefEqProofs only [pz,bg,bj,aY,↓reduceIte,aP];simp -dsimp -implicitDefEqProofs only [go_sem,db,gB];refine ak.draw mixed rfl ?_;simp -dsimp -implicitDefEqProofs only [go_sem,htl];((with_reducible and_intros);all_goals try first|(refine ⟨?_,?_⟩<;>omega)|exact rfl);refine ax hw (by simp [ay,ao,aH]) ?_;simp -dsimp -implicitDefEqProofs only [go_sem];refine ab ho ?_;cases b with
    |true=>
     rw [if_pos rfl] at x4;have lu:=lu ⟨tries+1,stop,[]⟩ (by simp only;omega) rfl;have JA:=JA ⟨tries+1,stop,[]⟩ (by simp only;omega) rfl;generalize dP m t lim d ([]++[k]) ⟨tries+1,stop,[]⟩=F at*;obtain ⟨bb,tr,st,fd⟩:=F;obtain ⟨g1,g2,g3,g4⟩:=JA;simp only at g1 g2 g3 x4;cases bb with
     |true=>
      rw [if_pos rfl] at x4;subst x4;simp -dsimp -implicitDefEqProofs only [go_sem];refine im [1000000000] ?_;cases fd with
      |nil=>
       simp -dsimp -implicitDefEqProofs only [go_sem,cZ];refine dN lu ?_;rintro _ _ ⟨rfl,rfl⟩;simp -dsimp -implicitDefEqProofs only [go_sem,cZ];(all_goals try (exact rfl))
      |cons f r=>
       obtain rfl:r=[]:=by cases r with|nil=>rfl|cons=>simp at g3
       simp -dsimp -implicitDefEqProofs only [go_sem,cZ];refine dN lu ?_;rintro _ _ ⟨rfl,rfl⟩;simp -dsimp -implicitDefEqProofs only [go_sem,tJ];(all_goals try (exact rfl))
     |false=>
      rw [if_neg (by simp)] at x4;obtain rfl:=g2 rfl;simp -dsimp -implicitDefEqProofs only [go_sem];refine im [1000000000] ?_;simp -dsimp -implicitDefEqProofs only [go_sem,cZ];refine dN lu ?_;rintro _ _ ⟨rfl,rfl⟩;simp -dsimp -implicitDefEqProofs only [go_sem,cZ];refine ax hnx (by simp [ay,ao,au,aH]) ?_;cases o with
      |some k2=>
       simp -dsimp -implicitDefEqProofs only [go_sem];refine ⟨(i+1,⟨tr,st,[]⟩),⟨by omega,g1,rfl,x4⟩,by simp only;omega,?_⟩;rw [hO];simp -dsimp -implicitDefEqProofs only [go_sem,db,gB,cZ]
      |none=>
       simp -dsimp -implicitDefEqProofs only [go_sem];refine ⟨(i+1,⟨tr,st,[]⟩),⟨by omega,g1,rfl,x4⟩,by simp only;omega,?_⟩;rw [hO];simp -dsimp -implicitDefEqProofs only [go_sem,fP,fW,cZ]
    |false=>
     rw [if_neg (by simp)] at x4;simp -dsimp -implicitDefEqProofs only [go_sem];refine ax hnx (by simp [ay,ao,au,aH]) ?_;cases o with
     |some k2=>
      simp -dsimp -implicitDefEqProofs only [go_sem];refine ⟨(i+1,⟨tries+1,stop,[]⟩),⟨by omega,by simp only;omega,rfl,x4⟩,by simp only;omega,?_⟩;rw [hO];simp -dsimp -implicitDefEqProofs only [go_sem,db,gB,cZ];(all_goals try (exact rfl))
     |none=>
      simp -dsimp -implicitDefEqProofs only [go_sem];refine ⟨(i+1,⟨tries+1,stop,[]⟩),⟨by omega,by simp only;omega,rfl,x4⟩,by simp only;omega,?_⟩;rw [hO];simp -dsimp -implicitDefEqProofs only [go_sem,fP,fW,cZ];(all_goals try (exact rfl))
 have gn:(bE m)[i]? =none:=List.getElem?_eq_none hi;rw [List.drop_of_length_le hi,DT] at x4;subst x4;rw [gn];simp -dsimp -implicitDefEqProofs only [pz,bg,bj,aY,↓reduceIte,aP];simp -dsimp -implicitDefEqProofs only [go_sem,fP,fW,cZ];(all_goals try (exact rfl))
def k7 (m:aL) (t:lL) (lim:Int):Int:=if eV m t=true then (if bF lim 0 4000=true then 0 else 2) else 1
theorem BY (m:aL) (t:lL) (lim:Int) (h:t.length<=1048576) (h2:∀x∈t,x.length<=1048576):Fn pG 136 [jR m t,eI lim] true (· =eI (k7 m t lim)):=by
 have hs:=vf m t h h2;unfold k7;refine Fn.av 11 [.tmp 4] func136 (hv:= ?_);cases hsy:eV m t with
 |false=>
  rw [hsy] at hs;simp -dsimp -implicitDefEqProofs only [go_sem];refine ab hs ?_;simp -dsimp -implicitDefEqProofs only [go_sem]
 |true=>
  rw [hsy] at hs;have hi:=jF lim 0 4000;cases hin:bF lim 0 4000 with
  |false=>
   rw [hin] at hi;simp -dsimp -implicitDefEqProofs only [go_sem];refine ab hs ?_;simp -dsimp -implicitDefEqProofs only [go_sem];refine ab hi ?_;simp -dsimp -implicitDefEqProofs only [go_sem]
  |true=>
   rw [hin] at hi;simp -dsimp -implicitDefEqProofs only [go_sem];refine ab hs ?_;simp -dsimp -implicitDefEqProofs only [go_sem];refine ab hi ?_;simp -dsimp -implicitDefEqProofs only [go_sem]
def fV (z:SS):AV:=match z.found with
 |f::_=>.aZ [aR f,eI z.tries,eI 0]
 | []=>.aZ [.val (.slice none 0 0),eI 0,eI (if z.stop=true then 3 else 4)]
theorem IX (v:Nat) (m:aL) (t:lL) (lim:Nat) (z:SS) (h1:z.found.length<=1) (h2:∀f∈z.found,f.length<=1000/\∀k∈f,k.length<=1000):
 qI pG 137 [sB v m t lim z] [.ptr 1000000000 v 0 0] (fun x io=>x=fV z/\io=[sB v m t lim z]):=by
 refine qI.dM 26 [.tmp 2,.tmp 3,.tmp 4] func137 (hv:= ?_);obtain ⟨tries,stop,found⟩:=z;have h00:decide ((0:Int)>0)=false:=rfl;have h10:decide (((1:Nat):Int)>0)=true:=rfl;simp only at h1 h2;cases found with
 |nil=>
  cases stop with
  |true=>
   simp -dsimp -implicitDefEqProofs only [go_sem,cZ,fV,h00];(all_goals try (exact rfl))
  |false=>
   simp -dsimp -implicitDefEqProofs only [go_sem,cZ,fV,h00];(all_goals try (exact rfl))
 |cons f r=>
  obtain rfl:r=[]:=by cases r with|nil=>rfl|cons=>simp at h1
  have ho:=h2 f (bW ..);have hq:=nO f ho.1 (fun x hx=>by have:=ho.2 x hx;omega);simp -dsimp -implicitDefEqProofs only [go_sem,tJ,h10];refine ak.draw mixed rfl ?_;simp -dsimp -implicitDefEqProofs only [go_sem,tJ];((with_reducible and_intros);all_goals try (omega));refine aI hq (by simp [ay,ao,aH]) ?_;simp -dsimp -implicitDefEqProofs only [go_sem,tJ];((with_reducible and_intros);all_goals try (exact rfl))
def lV (m:aL) (t:lL) (lim:Nat):AV:=if k7 m t lim=0 then fV (dP m t lim t.length [] ⟨0,false,[]⟩).2 else .aZ [.val (.slice none 0 0),eI 0,eI (k7 m t lim)]
theorem Qk {m:aL} {t:lL} (h:eV m t=true):a6 m=true/\Qj t:=by have ⟨h1,h2,h3,h4,h5⟩:=iW h;simp only [eV,uq0] at h;exact ⟨h.1.1,⟨h1,by omega⟩,h5,by omega⟩
theorem Dj (m:aL) (t:lL) (lim:Nat) (h:t.length<=1048576) (h2:∀x∈t,x.length<=1048576) (sQ:lim<=4000):Fn pG 96 [jR m t,eI lim] false (· =lV m t lim):=by
 refine Fn.cg 21 [.tmp 4,.tmp 5,.tmp 6] func96 (hv:= ?_);have hc:=BY m t lim h h2;unfold lV;cases hz:(k7 m t lim != 0) with
 |true=>
  have hz':k7 m t lim≠0:=by simpa using hz
  rw [if_neg hz'];simp -dsimp -implicitDefEqProofs only [go_sem];refine ab hc ?_;simp -dsimp -implicitDefEqProofs only [go_sem,hz]
 |false=>
  have hz':k7 m t lim=0:=by simpa using hz
  rw [if_pos hz'];have hs:eV m t=true:=by
   cases h:eV m t with
   |true=>rfl
   |false=>rw [k7,h,if_neg (by simp)] at hz';exact absurd hz' (by decide)
  obtain ⟨hm,ht⟩:=Qk hs;have hfr:=fun v=>IW m t lim hm ht sQ (t.length-1) v ⟨0,false,[]⟩ (by have:=ht.n;omega) (Nat.zero_le _) rfl;have hok:=k6 (m:=m) (t:=t) (lim:=lim) t.length [] ⟨0,false,[]⟩ (fun k h=>by cases h) (Nat.zero_le _) rfl;rw [show t.length-1+1=t.length by have:=ht.n;omega] at hfr;have hfi:=fun v z h1 h2=>IX v m t lim z h1 h2;have ky:=aO hm;have htn:=ht.n;generalize dP m t lim t.length [] ⟨0,false,[]⟩=F at*;obtain ⟨b,z⟩:=F;obtain ⟨g1,g2,g3,g4⟩:=hok;simp only at g1 g2 g3 g4 hfr ⊢;have hfi:=fun v=>hfi v z g3 (fun f hf=>⟨by have:=(g4 f hf).1;simp at this;omega,fun k hk=>by have:=(kq (m:=m) (by omega) ((g4 f hf).2 k hk)).len;omega⟩);simp -dsimp -implicitDefEqProofs only [go_sem];refine ab hc ?_;simp -dsimp -implicitDefEqProofs only [go_sem,hz];have h10:decide ((1:Int)>0)=true:=rfl;refine cn 900000 21 [.tmp 8] func138 rfl rfl rfl rfl rfl (by exact oT rfl) ?_;simp -dsimp -implicitDefEqProofs only [go_sem,h10];refine im [14] ?_;obtain ⟨tr,st,fd⟩:=z;simp only at g1 g2 g3 g4;cases fd with
  |nil=>
   simp -dsimp -implicitDefEqProofs only [go_sem];refine dN (hfr _) ?_;rintro _ _ ⟨rfl,rfl⟩;simp -dsimp -implicitDefEqProofs only [go_sem,cZ];refine im [900014] ?_;simp -dsimp -implicitDefEqProofs only [go_sem];refine dN (hfi _) ?_;rintro _ _ ⟨rfl,rfl⟩;simp -dsimp -implicitDefEqProofs only [go_sem,fV]
  |cons f r=>
   obtain rfl:r=[]:=by cases r with|nil=>rfl|cons=>simp at g3
   simp -dsimp -implicitDefEqProofs only [go_sem];refine dN (hfr _) ?_;rintro _ _ ⟨rfl,rfl⟩;simp -dsimp -implicitDefEqProofs only [go_sem,tJ];refine im [900014] ?_;simp -dsimp -implicitDefEqProofs only [go_sem];refine dN (hfi _) ?_;rintro _ _ ⟨rfl,rfl⟩;simp -dsimp -implicitDefEqProofs only [go_sem,fV]
attribute [go_sem] Option.map_none Nat.sub_zero cK List.size_toArray Mt pJ Th nE nD
theorem Tr (a b:lU):(a==b)=decide (a=b):=by
 by_cases h:a=b
 . simp [h]
 simp [h]
attribute [go_sem] Tr
theorem pQ {x:Int} (h:0<=x/\x<256):IntKind.u8.wrap x=x:=by simp [IntKind.wrap,IntKind.bits,IntKind.signed];omega
theorem Kn {n:Nat} (h:n<10):decDigits n=[UInt8.ofNat (48+n)]:=decDigits_one h
theorem Ql {n:Nat} (h:¬n<10):decDigits n=decDigits (n / 10)++[UInt8.ofNat (48+n%10)]:=by rw [decDigits,dif_neg h]
theorem zC {n:Nat} (h:n<18446744073709551616):(decDigits n).length<=20:=by rw [decDigits_length];exact nDigits_le20 n h
theorem F9:∀(n:Nat),n<=1000000000000000000->Fn pG 65 [eI n] true (· =eS (decDigits n)):=by
 intro n;induction n using Nat.strongRecOn with
 |_ n ih=>
  intro hn;refine Fn.av 20 [.tmp 2] func65 (hv:= ?_);simp -dsimp -implicitDefEqProofs only [go_sem];by_cases h:n<10
  . have hd:decide ((n:Int)<10)=true:=dT (by omega);have hw:IntKind.u8.wrap (48+(n:Int))=48+(n:Int):=pQ (by omega);have ht:(48+(n:Int)).toNat=48+n:=by omega
    rw [Kn h];simp -dsimp -implicitDefEqProofs only [go_sem,hd,hw,ht];with_reducible and_intros
    all_goals first|omega|(refine ⟨?_,?_⟩<;>omega)|skip
  have hd:decide ((n:Int)<10)=false:=dF (by omega);have hq:(n:Int).tdiv 10=((n / 10:Nat):Int):=by rw [Int.tdiv_eq_ediv_of_nonneg (by omega)];omega
  have hr:(n:Int).tmod 10=((n%10:Nat):Int):=by rw [Int.tmod_eq_emod_of_nonneg (by omega)];omega
  have hw:IntKind.u8.wrap (48+((n%10:Nat):Int))=48+((n%10:Nat):Int):=pQ (by omega);have ht:(48+((n%10:Nat):Int)).toNat=48+n%10:=by omega
  have hl:=zC (n:=n / 10) (by omega);have hc:=ih (n / 10) (by omega) (by omega);rw [Ql h];simp -dsimp -implicitDefEqProofs only [go_sem,hd];refine ak.draw mixed rfl ?_;simp -dsimp -implicitDefEqProofs only [go_sem,hq];with_reducible and_intros
  all_goals try (first|omega|(refine ⟨?_,?_⟩<;>omega)|(simp;done))
  refine an hc ?_;have hz:n%10<10:=Nat.mod_lt _ (by decide);generalize n%10=z at*;simp -dsimp -implicitDefEqProofs only [go_sem,hr,hw,ht];with_reducible and_intros
  all_goals first|omega|(refine ⟨?_,?_⟩<;>omega)|exact rfl|skip
theorem fm (n:Int) (h:0<=n/\n<=1000000000000000000):Fn pG 65 [eI n] true (· =eS (itoa n)):=by have:=F9 n.toNat (by omega);rw [show ((n.toNat:Nat):Int)=n by omega] at this;rw [ff h.1];exact this
theorem k8 {n:Int} (h:kx n):Fn pG 83 [eI n] true (· =eS (itoa n)):=by refine Fn.av 5 [.tmp 2] func83 (hv:= ?_);simp -dsimp -implicitDefEqProofs only [go_sem];refine ab (FZ h) ?_;simp -dsimp -implicitDefEqProofs only [go_sem]
theorem Ts (s:lU):pW s=(ma s,yt s&&decide (itoa (ma s)=s)):=by unfold pW ma yt;cases parseIntB 64 s<;>simp
theorem MS (s:lU):kx (ma s):=by
 unfold ma;rcases hp:parseIntB 64 s with v|_|_
 . exact u9 hp
 . unfold kx;simp
 simp only [intSat];split<;>simp [kx]
theorem Qm (s:lU) (h:s.length<=1048576):Fn pG 69 [eS s] true (· = .aZ [eI (pW s).1,eB (pW s).2]):=by
 refine Fn.av 20 [.tmp 2,.tmp 3] func69 (hv:= ?_);simp -dsimp -implicitDefEqProofs only [go_sem];refine wW (II s h) ?_;rintro _ ⟨e,rfl,he⟩;rw [Ts];have h64:=MS s;have hl:=cU h64;generalize ma s=v at*;rcases ho:yt s with _|_
 . rw [ho] at he;simp only [Bool.false_eq_true,if_false] at he;obtain ⟨t,p,rfl⟩:=he;simp -dsimp -implicitDefEqProofs only [go_sem]
 rw [ho] at he;simp only [if_true] at he;subst he;simp -dsimp -implicitDefEqProofs only [go_sem];refine ab (k8 h64) ?_;simp -dsimp -implicitDefEqProofs only [go_sem]
theorem iY (c:UInt8):∀(l:lU),∀w∈dq c l,w.length<=l.length
 | [],w,hw=>by simp [dq] at hw;simp [hw]
 |b::l,w,hw=>by
  have ih:=iY c l;rw [dq] at hw;split at hw
  . rcases List.mem_cons.1 hw with rfl|hw
    . simp
    have:=ih w hw;simp;omega
  split at hw
  . rename_i h t he;rcases List.mem_cons.1 hw with rfl|hw
    . have:=ih h (by rw [he];exact bW ..);simp;omega
    have:=ih w (by rw [he];exact List.mem_cons_of_mem _ hw);simp;omega
  simp at hw;simp [hw]
def fq (c:UInt8) (s:lU):Nat->List lU × Nat
 |0=>([],0)
 |i+1=>if i=s.length\/s.getD i 0=c then ((fq c s i).1++[(s.take i).drop (fq c s i).2],i+1) else fq c s i
theorem Qn {α:Type} {s:List α} {i j:Nat} {x:α} (h:s[i]? =some x) (hj:j<=i):s.drop j=(s.take i).drop j++x::s.drop (i+1):=by
 obtain ⟨hlt,he⟩:=List.getElem?_eq_some_iff.1 h;have e:s.take i++x::s.drop (i+1)=s:=by rw [←he,←List.drop_eq_getElem_cons hlt,List.take_append_drop]
 rw [←List.drop_append_of_le_length (by simp;omega),e]
theorem BZ (c:UInt8) (s:lU):∀i,i<=s.length->dq c s=(fq c s i).1++dq c (s.drop (fq c s i).2)/\(fq c s i).2<=i/\c∉(s.take i).drop (fq c s i).2/\(fq c s i).1.length<=i
 |0,_=>by simp [fq]
 |i+1,hi=>by
  obtain ⟨h1,h2,h3,h4⟩:=BZ c s i (by omega);have hlt:i<s.length:=by omega
  have hg:s.getD i 0=s[i]:=by rw [uq4,uq5 hlt];rfl
  rw [fq];by_cases hc:s[i]=c
  . rw [if_pos (.inr (by rw [hg];exact hc))];dsimp only;refine ⟨?_,cH _,?_,by simp;omega⟩
    . rw [List.append_assoc,h1];congr 1;have e:=Qn (s:=s) (i:=i) (j:=(fq c s i).2) (by rw [uq5 hlt,hc]) h2;rw [e,C9 _ h3];rfl
    rw [List.drop_eq_nil_of_le (by simp;omega)];exact List.not_mem_nil
  rw [if_neg (by rw [hg];rintro (h|h);· omega
                 exact hc h)]
  refine ⟨h1,by omega,?_,by omega⟩;rw [jd hlt,List.drop_append];intro hm;rcases dD.1 hm with hm|hm
  . exact h3 hm
  have:(s.take i).length=i:=by simp;omega
  rw [this,show (fq c s i).2-i=0 by omega] at hm;simp at hm;exact hc hm.symm
theorem MT (c:UInt8) (s:lU):(fq c s (s.length+1)).1=dq c s:=by obtain ⟨h1,h2,h3,h4⟩:=BZ c s s.length (cH _);rw [fq,if_pos (.inl rfl)];rw [cK] at h3 ⊢;rw [h1,sv h3]
theorem Ga (c:UInt8) (s:lU):∀i,(fq c s i).1.length<=i/\(fq c s i).2<=i
 |0=>by simp [fq]
 |i+1=>by
  have:=Ga c s i;rw [fq];split
  . simp;omega
  omega
theorem XB (a b:UInt8):(((a.toNat:Int)==(b.toNat:Int))=true)↔a=b:=by
 rw [beq_iff_eq];constructor
 . intro h;exact UInt8.toNat_inj.1 (by omega)
 intro h;rw [h]
theorem yM (s:lU) (c:UInt8) (h:s.length<=1048576):Fn pG 56 [eS s,.val (.int .u8 c.toNat)] true (· =nC (dq c s)):=by
 refine Fn.av 36 [.tmp 4] func56 (hv:= ?_);simp -dsimp -implicitDefEqProofs only [go_sem];refine ak.up [0,1] [11,17,31,32] [8] (s.length+1) (fun _=>True) (fun i=>[(5,.ref 8 0 0 (fq c s i).1.length),(6,eI ((fq c s i).2:Nat)),(7,eI i)]) (fun i=>[(8,.row 0 ⟨1,false⟩ true ((fq c s i).1.map eS))]) trivial ?_ rfl (fun i hi _=> ?_) (fun _=> ?_)
 . simp -dsimp -implicitDefEqProofs only [go_sem];simp [fq]
 . have hle:=Ga c s i;have d1:decide ((i:Int)<=(s.length:Int))=true:=dT (by omega);have hst:fq c s (i+1)=if i=s.length\/s.getD i 0=c then ((fq c s i).1++[(s.take i).drop (fq c s i).2],i+1) else fq c s i:=rfl
   rw [hst];clear hst;generalize fq c s i=q at*;obtain ⟨out,fr⟩:=q;dsimp only at hle ⊢;rcases he:((i:Int)==(s.length:Int)) with _|_
   . have hne:i≠s.length:=by intro e;subst e;simp at he
     have hlt:i<s.length:=by omega
     have hg:s.getD i 0=s[i]:=by rw [uq4,uq5 hlt];rfl
     have hu:=XB s[i] c;rw [hg];generalize s[i]=b at*;rcases hb:((b.toNat:Int)==(c.toNat:Int)) with _|_
     . have hbc:b≠c:=fun e=>by rw [hu.2 e] at hb;cases hb
       rw [if_neg (by rintro (w|w);· exact hne w
                      exact hbc w)]
       simp -dsimp -implicitDefEqProofs only [pz,bg,bj,aY,↓reduceIte,aP];simp -dsimp -implicitDefEqProofs only [go_sem,d1,he,hg,hb];with_reducible and_intros
       all_goals (first|omega|(refine ⟨?_,?_⟩<;>omega)|exact rfl|skip)
     rw [if_pos (.inr (hu.1 hb))];simp -dsimp -implicitDefEqProofs only [pz,bg,bj,aY,↓reduceIte,aP];simp -dsimp -implicitDefEqProofs only [go_sem,d1,he,hg,hb];with_reducible and_intros
     all_goals try (first|omega|(refine ⟨?_,?_⟩<;>omega))
     all_goals first|(simp;done)|skip
   have hq:i=s.length:=by have:=beq_iff_eq.1 he;omega
   rw [if_pos (.inl hq)];simp -dsimp -implicitDefEqProofs only [pz,bg,bj,aY,↓reduceIte,aP];simp -dsimp -implicitDefEqProofs only [go_sem,d1,he];with_reducible and_intros
   all_goals try (first|omega|(refine ⟨?_,?_⟩<;>omega))
   all_goals first|(simp;done)|skip
 have d1:decide (((s.length+1:Nat):Int)<=(s.length:Int))=false:=dF (by omega);rw [MT];simp -dsimp -implicitDefEqProofs only [pz,bg,bj,aY,↓reduceIte,aP];simp -dsimp -implicitDefEqProofs only [go_sem,d1];all_goals first|(simp;done)|skip
theorem IY (b:UInt8):(decide (48<=b.toNat)&&decide (b.toNat<=57))=(!(decide ((b.toNat:Int)<48)||decide ((b.toNat:Int)>57))):=by
 by_cases h1:48<=b.toNat
 . by_cases h2:b.toNat<=57
   . rw [decide_eq_true h1,decide_eq_true h2,decide_eq_false (by omega),decide_eq_false (by omega)];rfl
   rw [decide_eq_true h1,decide_eq_false h2,decide_eq_false (by omega),decide_eq_true (by omega)];rfl
 rw [decide_eq_false h1,decide_eq_true (show (b.toNat:Int)<48 by omega)];rfl
abbrev dQ (b:UInt8):Bool:=decide (48<=b.toNat)&&decide (b.toNat<=57)
theorem Ko {n:Nat} (h:n<=13):10^n<=10000000000000:=by have:=cL (show 0<10 by decide) h;exact this
theorem IZ (s:lU) (h:s.length<=1048576):Fn pG 71 [eS s] true (· = .aZ [eI (dW s).1,eB (dW s).2]):=by
 refine Fn.av 43 [.tmp 2,.tmp 3] func71 (hv:= ?_);unfold dW;rcases h1:decide ((s.length:Int)<1) with _|_
 . rcases h13:decide ((s.length:Int)>13) with _|_
   . have g1:=of_decide_eq_false h1;have g2:=of_decide_eq_false h13;rw [if_neg (by omega)];have hv:∀i,i<=s.length->((s.take i).all dQ)=true->jQ 0 (s.take i)<=10000000000000:=by
      intro i hi cX;have h3:=su (s.take i) 0 (fun c hc=>by have:=uq1.1 cX c hc;simpa [dQ] using this);have h4:=Ko (n:=(s.take i).length) (by simp;omega);rw [Nat.zero_add,Nat.one_mul] at h3;omega
     simp -dsimp -implicitDefEqProofs only [go_sem,h1,h13];refine ak.up [0] [16] [] s.length (fun i=>((s.take i).all dQ)=true) (fun i=>[(4,eI ((jQ 0 (s.take i):Nat):Int)),(5,eI i)]) (fun _=>[]) rfl ?_ rfl (fun i hi hI=> ?_) (fun hI=> ?_)
     . simp -dsimp -implicitDefEqProofs only [go_sem];exact rfl
     . have hb:=(s[i]).toNat_lt;have hg:(s.getD i 0)=s[i]:=by rw [uq4,uq5 hi];rfl
       have cX:=dy dQ s i hi;have hno:=fun h=>gQ (p:=dQ) hi h;have hdv:jQ 0 (s.take (i+1))=jQ 0 (s.take i)*10+((s[i]).toNat-48):=by rw [jd hi,FQ];rfl
       have hv1:=hv i (by omega) hI;have hd:=IY s[i];rw [hdv];clear hdv hv;generalize s[i]=b at*;generalize jQ 0 (s.take i)=z at*;rcases d1:decide ((b.toNat:Int)<48) with _|_
       . rcases d2:decide ((b.toNat:Int)>57) with _|_
         . have e1:=of_decide_eq_false d1;have e2:=of_decide_eq_false d2;have hw:IntKind.u8.wrap ((b.toNat:Int)-48)=(b.toNat:Int)-48:=pQ (by omega);simp -dsimp -implicitDefEqProofs only [pz,↓reduceIte,aP];simp -dsimp -implicitDefEqProofs only [go_sem,aG hi,hg,d1,d2,hw];with_reducible and_intros
           all_goals first|omega|(refine ⟨?_,?_⟩<;>omega)|(rw [cX,hI];show dQ b=true;rw [dQ,hd,d1,d2];rfl)|(simp;omega)|(simp;done)|skip
         have hz:=hno (by rw [dQ,hd,d1,d2];rfl);rw [if_neg (by rw [show (s.all fun c=>decide (48<=c.toNat)&&decide (c.toNat<=57))=s.all dQ from rfl,hz];decide)];simp -dsimp -implicitDefEqProofs only [pz,↓reduceIte,aP];simp -dsimp -implicitDefEqProofs only [go_sem,aG hi,hg,d1,d2];with_reducible and_intros
         all_goals (first|omega|skip)
       have hz:=hno (by rw [dQ,hd,d1];rfl);rw [if_neg (by rw [show (s.all fun c=>decide (48<=c.toNat)&&decide (c.toNat<=57))=s.all dQ from rfl,hz];decide)];simp -dsimp -implicitDefEqProofs only [pz,↓reduceIte,aP];simp -dsimp -implicitDefEqProofs only [go_sem,aG hi,hg,d1];with_reducible and_intros
       all_goals (first|omega|skip)
     rw [cK] at hI;have hv1:=hv s.length (cH _) (by rw [cK];exact hI);rw [cK] at hv1;rw [if_pos (show (s.all fun c=>decide (48<=c.toNat)&&decide (c.toNat<=57))=true from hI),cK];have hcd:=F9 (jQ 0 s) (by omega);generalize jQ 0 s=z at*;simp -dsimp -implicitDefEqProofs only [pz,↓reduceIte,aP];simp -dsimp -implicitDefEqProofs only [go_sem,aC];refine ab hcd ?_;simp -dsimp -implicitDefEqProofs only [go_sem]
   have g1:=oT h13;rw [if_pos (by omega)];simp -dsimp -implicitDefEqProofs only [go_sem,h1,h13]
 have g1:=oT h1;rw [if_pos (by omega)];simp -dsimp -implicitDefEqProofs only [go_sem,h1]
def o7 (w:Nat) (s:lU):lU:=List.replicate (w-s.length) 48++s
def Kp (series n:Int):Int:=(100*n+series).tmod 97
def tL (w:Nat) (series n:Int):lU:=[UInt8.ofNat (65+series).toNat]++o7 w (itoa n)++[45]++o7 2 (itoa (Kp series n))
def Qo (s:lU):Nat->Int
 |0=>0
 |i+1=>Qo s i*10+((s.getD (i+1) 0).toNat:Int)-48
theorem I0 (s:lU):∀i, -(29*10^i-29)<=Qo s i/\Qo s i<=29*10^i-29
 |0=>by simp [Qo]
 |i+1=>by
  have ih:=I0 s i;have hb:=(s.getD (i+1) 0).toNat_lt;have e:(10:Int)^(i+1)=10*10^i:=by rw [Int.pow_succ,Int.mul_comm]
  simp only [Qo];rw [e];generalize (s.getD (i+1) 0).toNat=x at*;generalize (10:Int)^i=p at*;omega
theorem Qp {x:Int} (h:0<=x/\x<256):IntKind.i32.wrap x=x:=by simp [IntKind.wrap,IntKind.bits,IntKind.signed];omega
theorem B0:∀k,Lib.repeatL [48] k=List.replicate k 48
 |0=>rfl
 |k+1=>by rw [Lib.repeatL,B0 k,List.replicate_succ];rfl
theorem MU (k:Nat) (h:k<=1000000):Fn pG 264 [eS [48],eI k] true (· =eS (List.replicate k 48)):=by refine Fn.plain [.string ⟨[48].toArray⟩,.int .i64 k] ⟨Tryz.f264,_,func264,by decide,rfl⟩ fun w S hk=> ?_;refine (Any.strings_Repeat Tryz.Mp Tryz.FJ ⟨[48].toArray⟩ k w (by omega) (by simp [pJ];omega)).mono ?_;rintro e w' ⟨rfl,hb⟩;rw [nD,B0];exact ⟨_,[],rfl,Grown.oY hb,qN rfl,List.nodup_nil,fun b hb=>by cases hb⟩
theorem sM (n:Int) (w:Nat) (hn:0<=n/\n<=1000000) (hw:w<=1000):Fn pG 229 [eI n,eI w] true (· =eS (o7 w (itoa n))):=by
 refine Fn.av 16 [.tmp 4] func229 (hv:= ?_);have ht:=k8 (n:=n) ⟨by omega,by omega⟩;have hl:=cU (v:=n) ⟨by omega,by omega⟩;have hmx:(if (w:Int)-((itoa n).length:Int)>0 then (w:Int)-((itoa n).length:Int) else 0)=((w-(itoa n).length:Nat):Int):=by split<;>omega
 have hr:=MU (w-(itoa n).length) (by omega);simp -dsimp -implicitDefEqProofs only [go_sem];(refine ab (ht) ?_;try simp -dsimp -implicitDefEqProofs only [go_sem, *]);((with_reducible and_intros);all_goals try ((refine ⟨?_,?_⟩<;>omega)));refine ab hr ?_;simp -dsimp -implicitDefEqProofs only [go_sem];refine ⟨by simp;omega,by exact rfl⟩
theorem MV (se n:Int) (h:0<=se/\se<=25) (hn:0<=n/\n<=9999999999):Fn pG 230 [eI se,eI n] true (· =eI (Kp se n)):=by refine Fn.av 10 [.tmp 4] func230 (hv:= ?_);simp -dsimp -implicitDefEqProofs only [go_sem];((with_reducible and_intros);all_goals try first|omega|(refine ⟨?_,?_⟩<;>omega)|exact rfl)
theorem I1 (se n:Int) (h:0<=se/\se<=25) (hn:0<=n/\n<=9999999999):Fn pG 200 [eI se,eI n] true (· =eI (Kp se n)):=by refine Fn.av 10 [.tmp 4] func200 (hv:= ?_);simp -dsimp -implicitDefEqProofs only [go_sem];((with_reducible and_intros);all_goals try first|omega|(refine ⟨?_,?_⟩<;>omega)|exact rfl)
theorem B1 {se n:Int} (h:0<=se/\se<=25) (hn:0<=n/\n<=1000000):0<=Kp se n/\Kp se n<=96:=by unfold Kp;rw [Int.tmod_eq_emod_of_nonneg (by omega)];omega
theorem Gb (K se n:Int) (hK:0<=K/\K<=1000000) (h:0<=se/\se<=25) (hn:0<=n/\n<=1000000):Fn pG 177 [eI K,eI se,eI n] true (· =eS (tL (itoa K).length se n)):=by
 refine Fn.av 23 [.tmp 6] func177 (hv:= ?_);have ht:=k8 (n:=K) ⟨by omega,by omega⟩;have hl:=cU (v:=K) ⟨by omega,by omega⟩;have hd:=sM n (itoa K).length hn (by omega);have hc:=MV se n h (by omega);have hcb:=B1 h hn;have hd2:=sM (Kp se n) 2 (by omega) (by omega);have hw:IntKind.i32.wrap (65+se)=65+se:=Qp (by omega);have hpl:(o7 (itoa K).length (itoa n)).length<=50:=by have:=cU (v:=n) ⟨by omega,by omega⟩;simp [o7];omega
 have Zk:(o7 2 (itoa (Kp se n))).length<=50:=by have:=cU (v:=Kp se n) ⟨by omega,by omega⟩;simp [o7];omega
 unfold tL;generalize o7 (itoa K).length (itoa n)=A at*;generalize o7 2 (itoa (Kp se n))=Bs at*;simp -dsimp -implicitDefEqProofs only [go_sem,hw];refine ⟨⟨by omega,by omega⟩,by omega,?_⟩;(refine ab (ht) ?_;try simp -dsimp -implicitDefEqProofs only [go_sem, *]);(refine ab (hd) ?_;try simp -dsimp -implicitDefEqProofs only [go_sem, *]);((with_reducible and_intros);all_goals try (omega));all_goals try (refine ab (hc) ?_;try simp -dsimp -implicitDefEqProofs only [go_sem, *])
 all_goals try (refine ab (hd2) ?_;try simp -dsimp -implicitDefEqProofs only [go_sem, *])
 (all_goals try (omega))
theorem Gc (n:Int) (w:Nat) (hn:0<=n/\n<=1000000) (hw:w<=1000):Fn pG 198 [eI n,eI w] true (· =eS (o7 w (itoa n))):=by
 refine Fn.av 15 [.tmp 4] func198 (hv:= ?_);have ht:=fm n ⟨by omega,by omega⟩;have hl:=cU (v:=n) ⟨by omega,by omega⟩;unfold o7;generalize itoa n=A at*;simp -dsimp -implicitDefEqProofs only [go_sem];(refine ab (ht) ?_;try simp -dsimp -implicitDefEqProofs only [go_sem, *]);refine ak.up [1] [9] [] (w-A.length) (fun _=>True) (fun i=>[(5,eS (List.replicate i 48++A))]) (fun _=>[]) trivial ?_ rfl (fun i hi _=> ?_) (fun _=> ?_)
 . simp -dsimp -implicitDefEqProofs only [go_sem]
 . have hlt:decide (((i+A.length:Nat):Int)<(w:Int))=true:=dT (by omega);have hlen:(List.replicate i (48:UInt8)++A).length=i+A.length:=by simp
   rw [List.replicate_succ];simp -dsimp -implicitDefEqProofs only [pz,↓reduceIte,aP];simp -dsimp -implicitDefEqProofs only [go_sem,hlen,hlt];(all_goals try (omega))
 have hlt:decide (((w-A.length+A.length:Nat):Int)<(w:Int))=false:=dF (by omega);have hlen:(List.replicate (w-A.length) (48:UInt8)++A).length=w-A.length+A.length:=by simp
 simp -dsimp -implicitDefEqProofs only [pz,↓reduceIte,aP];simp -dsimp -implicitDefEqProofs only [go_sem,hlen,hlt]
theorem jI (m:aL) (hm:a6 m=true):lQ m m.ah.toNat []<=262144:=by have vS:=aO hm;have:=Dg m hm m.ah.toNat [];have:8^m.ah.toNat<=8^6:=cL (by decide) (by omega);omega
theorem lW (m:aL) (hm:a6 m=true):Fn pG 143 [kV m,VY] true (· =eI (lQ m m.ah.toNat [])):=
 (yG m hm m.ah.toNat [] (by have:=aO hm;simp;omega) (fun x hx=>by cases hx)).Qa (.cons (.refl _) (.cons (.nil _) .nil))
theorem Gd (m:aL) (hm:a6 m=true):Fn pG 199 [kV m] true (· =eI ((itoa (lQ m m.ah.toNat [])).length)):=by refine Fn.av 7 [.tmp 2] func199 (hv:= ?_);have hc:=lW m hm;have hb:=jI m hm;generalize lQ m m.ah.toNat []=N at*;have ht:=fm (N:Int) ⟨by omega,by omega⟩;simp -dsimp -implicitDefEqProofs only [go_sem];(refine ab (hc) ?_;try simp -dsimp -implicitDefEqProofs only [go_sem, *]);repeat' (refine ab (ht) ?_;try simp -dsimp -implicitDefEqProofs only [go_sem, *])
theorem MW (m:aL) (hm:a6 m=true) (se n:Int) (h:0<=se/\se<=25) (hn:0<=n/\n<=1000000):Fn pG 152 [kV m,eI se,eI n] true (· =eS (tL (itoa (lQ m m.ah.toNat [])).length se n)):=by
 refine Fn.av 23 [.tmp 6] func152 (hv:= ?_);have hc:=Gd m hm;have hb:=jI m hm;generalize lQ m m.ah.toNat []=N at*;have hl:=cU (v:=(N:Int)) ⟨by omega,by omega⟩;have hp:=Gc n (itoa N).length hn (by omega);have hk:=I1 se n h (by omega);have hcb:=B1 h hn;have hp2:=Gc (Kp se n) 2 (by omega) (by omega);have hw:IntKind.u8.wrap (65+se)=65+se:=pQ (by omega);have hpl:(o7 (itoa N).length (itoa n)).length<=50:=by have:=cU (v:=n) ⟨by omega,by omega⟩;simp [o7];omega
 have Zk:(o7 2 (itoa (Kp se n))).length<=50:=by have:=cU (v:=Kp se n) ⟨by omega,by omega⟩;simp [o7];omega
 unfold tL;generalize o7 (itoa N).length (itoa n)=A at*;generalize o7 2 (itoa (Kp se n))=Bs at*;simp -dsimp -implicitDefEqProofs only [go_sem];refine ak.draw mixed rfl ?_;simp -dsimp -implicitDefEqProofs only [go_sem,hw];refine ⟨⟨by omega,by omega⟩,by omega,?_⟩;(refine an (hc) ?_;try simp -dsimp -implicitDefEqProofs only [go_sem, *]);(refine an (hp) ?_;try simp -dsimp -implicitDefEqProofs only [go_sem, *]);((with_reducible and_intros);all_goals try (omega));all_goals try (refine an (hk) ?_;try simp -dsimp -implicitDefEqProofs only [go_sem, *])
 all_goals try (refine an (hp2) ?_;try simp -dsimp -implicitDefEqProofs only [go_sem, *])
 ((with_reducible and_intros);all_goals try first|omega|exact rfl)
theorem getD_in {s:lU} {i:Nat} (h:i<s.length):s.getD i 0=s[i]:=by simp [uq4,h]
def iK (m:aL):Int:=lQ m m.ah.toNat []
end Go.Vc
